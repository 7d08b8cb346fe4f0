/- An operation hangs on its operands alone. The text's order, state by state. -/
import Derived.Test.YtekedhfmdpbplaaDenM
set_option linter.unusedSimpArgs false
set_option linter.unusedVariables false
namespace Go.Den
open Go

section
variable {P : Program} {call : CallA}

theorem evs_congr {t t' : List AV} : ∀ (xs : List Operand), (∀ x ∈ xs, evA t x = evA t' x) → evsA t xs = evsA t' xs
  | [], _ => rfl
  | x :: xs, h => by
    simp only [evsA]
    rw [h x (by simp), evs_congr xs (fun y hy => h y (by simp [hy]))]
theorem evOpt_congr {t t' : List AV} (x : Option Operand) (h : ∀ y, x = some y → evA t y = evA t' y) : evOptA t x = evOptA t' x := by
  cases x with
  | none => rfl
  | some y => simp only [evOptA, h y rfl]
theorem evParts_congr {t t' : List AV} : ∀ (xs : List (Nat × Operand)), (∀ x ∈ xs, evA t x.2 = evA t' x.2) → evPartsA t xs = evPartsA t' xs
  | [], _ => rfl
  | (i, x) :: xs, h => by
    simp only [evPartsA]
    rw [h (i, x) (by simp), evParts_congr xs (fun y hy => h y (by simp [hy]))]

theorem pure_congr {t t' : List AV} {o : Op} (h : ∀ x ∈ o.operands, evA t x = evA t' x) : pureA P t o = pureA P t' o := by
  unfold pureA
  split <;> simp only [Op.operands, Call.operands] at h
  · exact h _ (by simp)
  · exact h _ (by simp)
  · rw [h _ (by simp : _ ∈ #[_, _, _])]; rename_i c x y; rw [h x (by simp), h y (by simp)]
  · rename_i ty parts; rw [evParts_congr parts.toList (fun x hx => h x.2 (by simp; exact ⟨x.1, by simpa using hx⟩))]
  · rw [h _ (by simp)]
  · rename_i op ty x y yt; rw [h x (by simp), h y (by simp)]
  · rw [h _ (by simp)]
  · rw [h _ (by simp)]
  · rename_i f first captured; rw [evs_congr first.toList (fun x hx => h x (by simp at hx ⊢; exact .inl hx)), evs_congr captured.toList (fun x hx => h x (by simp at hx ⊢; exact .inr hx))]
  · rename_i ty x lo hi mx
    rw [h x (by simp), evOpt_congr lo (fun y e => h y (by subst e; simp)), evOpt_congr hi (fun y e => h y (by subst e; simp)), evOpt_congr mx (fun y e => h y (by subst e; simp))]
  · rw [h _ (by simp)]
  · rw [h _ (by simp)]
  · rename_i ty x ix; rw [h x (by simp), h ix (by simp)]
  · rename_i ty x ix; rw [h x (by simp), h ix (by simp)]
  · rw [h _ (by simp)]
  · rw [h _ (by simp)]
  · rw [h _ (by simp)]
  · rename_i args _; rw [evs_congr args.toList (fun x hx => h x (by simpa using hx))]
  · rename_i args _; rw [evs_congr args.toList (fun x hx => h x (by simpa using hx))]
  · rfl
theorem alloc_congr {t t' : List AV} {n : Nat} {o : Op} (h : ∀ x ∈ o.operands, evA t x = evA t' x) : allocA P t n o = allocA P t' n o := by
  unfold allocA
  split <;> simp only [Op.operands, Call.operands] at h
  · rfl
  · rw [h _ (by simp)]
  · rename_i ty len parts; rw [evParts_congr parts.toList (fun x hx => h x.2 (by simp; exact ⟨x.1, by simpa using hx⟩))]
  · rename_i ty l c; rw [h l (by simp), h c (by simp)]
  · rfl
theorem read_congr {t t' : List AV} {o : Op} (h : ∀ x ∈ o.operands, evA t x = evA t' x) : readA P t o = readA P t' o := by
  unfold readA
  split <;> simp only [Op.operands, Call.operands] at h
  · rw [h _ (by simp)]
  · rw [h _ (by simp)]
  · rfl
theorem eff_congr {t t' : List AV} {st : St} {o : Op} (h : ∀ x ∈ o.operands, evA t x = evA t' x) : effA P call t st o = effA P call t' st o := by
  unfold effA
  split <;> simp only [Op.operands, Call.operands] at h
  · rename_i ty p x; rw [h p (by simp), h x (by simp)]
  · rename_i s x ty u; rw [h s (by simp), h x (by simp)]
  · rename_i s x ty u; rw [h s (by simp), h x (by simp)]
  · rw [h _ (by simp)]
  · rename_i f args ats; rw [h f (by simp), evs_congr args.toList (fun x hx => h x (by simp at hx ⊢; exact .inr hx))]
  · rfl
theorem op_congr {t t' : List AV} {st : St} {o : Op} (h : ∀ x ∈ o.operands, evA t x = evA t' x) : opA P call t st o = opA P call t' st o := by
  unfold opA
  rw [pure_congr h, alloc_congr h, read_congr h, eff_congr h]

theorem putA_length (t : List AV) (d : Option Tmp) (v : AV) : (putA t d v).length = t.length := by cases d <;> simp [putA]
theorem putA_other (t : List AV) (d : Option Tmp) (v : AV) (s : Nat) (h : d ≠ some s) : (putA t d v).getD s undefA = t.getD s undefA := by
  cases d with
  | none => rfl
  | some d => simp only [putA, List.getD]; rw [List.getElem?_set_ne (fun e => h (by rw [e]))]
theorem putA_same (t t' : List AV) (d : Tmp) (v : AV) (h : t.length = t'.length) : (putA t (some d) v).getD d undefA = (putA t' (some d) v).getD d undefA := by
  simp only [putA, List.getD]
  by_cases hd : d < t.length
  · have hd' : d < t'.length := by rw [← h]; exact hd
    simp [hd, hd']
  · have hd' : ¬ d < t'.length := by rw [← h]; exact hd
    simp [hd, hd']

/-- What a step of the text's order does. -/
theorem step_put {ops : Array Oper} {o : Oper} {t t1 : List AV} {s s1 : St} (e : stepA P call ops o t s = some (t1, s1)) :
    (guardA ops t o = false ∧ t1 = putA t o.dst undefA ∧ s1 = s) ∨ (guardA ops t o = true ∧ ∃ v, opA P call t s o.op = some (v, s1) ∧ t1 = putA t o.dst v) := by
  unfold stepA at e
  split at e
  · rename_i hg; cases e; exact .inl ⟨hg, rfl, rfl⟩
  · rename_i hg
    split at e
    · rename_i v s2 hop; cases e; exact .inr ⟨hg, v, hop, rfl⟩
    · cases e

/-- What is known of the text's order. -/
structure Text (P : Program) (call : CallA) (ops : Array Oper) (bef : List Nat) (T : Nat → List AV) (S : Nat → St) : Prop where
  step : ∀ (p : Nat) (o : Oper), ops[p]? = some o → stepA P call ops o (T p) (S p) = some (T (p + 1), S (p + 1))
  stable : ∀ (p : Nat) (o : Oper), ops[p]? = some o → isRead P o.op = true → guardA ops (T p) o = true → ∃ b off k mk, readA P (T p) o.op = some (b, off, k, mk) ∧
    ∀ (e : Nat) (oe : Oper), ops[e]? = some oe → isEff P oe.op = true → guardA ops (T e) oe = true → ordA bef p e = false → ordA bef e p = false → leavesA b off k ((S p).read b off k) (S e) (S (e + 1)) = true
  pair : ∀ (i j : Nat) (x y : Oper), i < j → ops[i]? = some x → ops[j]? = some y → ordA bef i j = true ∨ (x.apart ops y = true ∧ ¬ (isEff P x.op = true ∧ isEff P y.op = true))
  edges : ∀ (j : Nat) (o : Oper) (e : Edge), ops[j]? = some o → e ∈ o.after.toList → Region.binds .any e = true → e.on < j
  closed : ∀ (L : Nat → Prop), (∀ (j : Nat) (o : Oper) (e : Edge), ops[j]? = some o → L j → e ∈ o.after.toList → Region.binds .any e = true → L e.on) → ∀ i j o, ops[j]? = some o → L j → ordA bef i j = true → L i

variable {ops : Array Oper} {bef : List Nat} {T : Nat → List AV} {S : Nat → St}

theorem Text.n_step (hc : CallOk P call) (X : Text P call ops bef T S) {p : Nat} (hp : p < ops.size) : (S p).n ≤ (S (p + 1)).n :=
  step_n hc (X.step p ops[p] (Array.getElem?_eq_getElem hp))
theorem Text.n_mono (hc : CallOk P call) (X : Text P call ops bef T S) {p : Nat} : ∀ (q : Nat), q ≤ ops.size → p ≤ q → (S p).n ≤ (S q).n := by
  intro q
  induction q with
  | zero => intro _ h; have : p = 0 := by omega
            subst this; exact Nat.le_refl _
  | succ q ih =>
    intro hq h
    by_cases e : p = q + 1
    · subst e; exact Nat.le_refl _
    · exact Nat.le_trans (ih (by omega) (by omega)) (X.n_step hc (by omega))
theorem Text.length (X : Text P call ops bef T S) : ∀ (q : Nat), q ≤ ops.size → (T q).length = (T 0).length := by
  intro q
  induction q with
  | zero => intro _; rfl
  | succ q ih =>
    intro hq
    have e := X.step q ops[q] (Array.getElem?_eq_getElem (by omega))
    rcases step_put e with ⟨_, e1, _⟩ | ⟨_, v, _, e1⟩ <;> rw [e1, putA_length] <;> exact ih (by omega)
/-- A slot stays as it is where nobody writes it. -/
theorem Text.same (X : Text P call ops bef T S) {t i : Nat} : ∀ (q : Nat), q ≤ ops.size → i ≤ q → (∀ k o, i ≤ k → k < q → ops[k]? = some o → o.dst ≠ some t) → (T q).getD t undefA = (T i).getD t undefA := by
  intro q
  induction q with
  | zero => intro _ h _; have : i = 0 := by omega
            subst this; rfl
  | succ q ih =>
    intro hq h hw
    by_cases e : i = q + 1
    · subst e; rfl
    · have e0 := X.step q ops[q] (Array.getElem?_eq_getElem (by omega))
      have hd := hw q ops[q] (by omega) (by omega) (Array.getElem?_eq_getElem (by omega))
      have h2 := ih (by omega) (by omega) (fun k o h1 h2 => hw k o h1 (by omega))
      rcases step_put e0 with ⟨_, e1, _⟩ | ⟨_, v, _, e1⟩ <;> rw [e1, putA_other _ _ _ _ hd] <;> exact h2

/-- Not an effect that is carried out: what is there stays. -/
def Idle (P : Program) (ops : Array Oper) (T : Nat → List AV) (p : Nat) : Prop := ∀ o, ops[p]? = some o → isEff P o.op = true → guardA ops (T p) o = false
theorem clsOf_read {o : Op} (h : clsOf P o = .read) : isRead P o = true ∧ isEff P o = false := by simp [isRead, isEff, h]
theorem Text.idle_step (X : Text P call ops bef T S) {p : Nat} (hp : p < ops.size) (hi : Idle P ops T p) :
    (∀ id, id < (S p).n → (S (p + 1)).get id = (S p).get id) ∧ (∀ id, (S p).n ≤ id → id < (S (p + 1)).n → ∃ cs, (S (p + 1)).get id = some (.cells false none cs)) ∧
      (∀ h, Agree (S p) h → ∀ h', (∀ id, id < (S (p + 1)).n → h' id = (S (p + 1)).get id) → Agree (S (p + 1)) h') := by
  have e := X.step p ops[p] (Array.getElem?_eq_getElem hp)
  rcases step_put e with ⟨_, _, e1⟩ | ⟨hg, v, hop, e1⟩
  · rw [e1]
    refine ⟨fun _ _ => rfl, fun id h1 h2 => by omega, fun h ha h' hh => ⟨hh, ha.wf, ha.ref, ha.mem⟩⟩
  · have hne : isEff P ops[p].op ≠ true := fun he => by rw [hi _ (Array.getElem?_eq_getElem hp) he] at hg; cases hg
    unfold opA at hop
    split at hop
    · split at hop
      · simp only [Option.some.injEq, Prod.mk.injEq] at hop
        obtain ⟨_, hop⟩ := hop
        rw [← hop]
        refine ⟨fun _ _ => rfl, fun id h1 h2 => by omega, fun h ha h' hh => ⟨hh, ha.wf, ha.ref, ha.mem⟩⟩
      · cases hop
    · split at hop
      · rename_i v0 cs _
        simp only [Option.some.injEq, Prod.mk.injEq] at hop
        obtain ⟨_, hop⟩ := hop
        have hget : ∀ id, (S (p + 1)).get id = if (S p).n = id then some (.cells false none cs) else (S p).get id := fun id => by
          rw [← hop]; exact Tr.get_set _ _ _ _
        have hn : (S (p + 1)).n = (S p).n + 1 := by rw [← hop]; rfl
        refine ⟨fun id hid => by rw [hget, if_neg (by omega)], fun id h1 h2 => ⟨cs, by rw [hget, if_pos (by omega)]⟩, fun h ha h' hh => ⟨hh, fun id hid => ?_, fun i ro rt b c hc => ?_, fun rt ms hms m hm => ?_⟩⟩
        · rw [hget, if_neg (by omega)]; exact ha.wf id (by omega)
        · rw [hget] at hc
          split at hc
          · cases hc
          · have := ha.ref i ro rt b c hc; omega
        · rw [hget] at hms
          split at hms
          · cases hms
          · have := ha.mem rt ms hms m hm; omega
      · cases hop
    · split at hop
      · split at hop
        · split at hop
          · simp only [Option.some.injEq, Prod.mk.injEq] at hop
            obtain ⟨_, hop⟩ := hop
            rw [← hop]
            refine ⟨fun _ _ => rfl, fun id h1 h2 => by omega, fun h ha h' hh => ⟨hh, ha.wf, ha.ref, ha.mem⟩⟩
          · cases hop
        · cases hop
      · cases hop
    · rename_i hcls
      exact absurd (by simp [isEff, hcls]) hne
end

end Go.Den
