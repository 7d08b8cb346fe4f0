/- An operation hangs on its operands alone. The text's order, state by state. -/
import Derived.Test.YtkfdfenaaidkkaaSyM
set_option linter.unusedSimpArgs false
set_option linter.unusedVariables false
namespace Go.Sy
open Go

section
variable {P : Program} {call : CallS}

theorem evs_congr {t t' : List AV} : ∀ (xs : List Operand), (∀ x ∈ xs, evA t x = evA t' x) → evsA t xs = evsA t' xs
  | [], _ => rfl
  | x :: xs, h => by
    simp only [evsA]
    rw [h x (by simp), evs_congr xs (fun y hy => h y (by simp [hy]))]
theorem evOpt_congr {t t' : List AV} (x : Option Operand) (h : ∀ y, x = some y → evA t y = evA t' y) : evOptA t x = evOptA t' x := by
  cases x with
  | none => rfl
  | some y => simp only [evOptA, h y rfl]
theorem evParts_congr {t t' : List AV} : ∀ (xs : List (Nat × Operand)), (∀ x ∈ xs, evA t x.2 = evA t' x.2) → evPartsA t xs = evPartsA t' xs
  | [], _ => rfl
  | (i, x) :: xs, h => by
    simp only [evPartsA]
    rw [h (i, x) (by simp), evParts_congr xs (fun y hy => h y (by simp [hy]))]

theorem pure_congr {t t' : List AV} {o : Op} (h : ∀ x ∈ o.operands, evA t x = evA t' x) : pureA P t o = pureA P t' o := by
  unfold pureA
  split <;> simp only [Op.operands, Call.operands] at h
  · rw [h _ (by simp)]
  · rw [h _ (by simp)]
  · rw [h _ (by simp : _ ∈ #[_, _, _])]; rename_i c x y; rw [h x (by simp), h y (by simp)]
  · rename_i ty parts; rw [evParts_congr parts.toList (fun x hx => h x.2 (by simp; exact ⟨x.1, by simpa using hx⟩))]
  · rw [h _ (by simp)]
  · rename_i op ty x y yt; rw [h x (by simp), h y (by simp)]
  · rw [h _ (by simp)]
  · rw [h _ (by simp)]
  · rename_i f first captured; rw [evs_congr first.toList (fun x hx => h x (by simp at hx ⊢; exact .inl hx)), evs_congr captured.toList (fun x hx => h x (by simp at hx ⊢; exact .inr hx))]
  · rename_i ty x lo hi
    rw [h x (by simp), evOpt_congr lo (fun y e => h y (by subst e; simp)), evOpt_congr hi (fun y e => h y (by subst e; simp))]
  · rename_i ty x lo hi mx
    rw [h x (by simp), evOpt_congr lo (fun y e => h y (by subst e; simp)), h hi (by simp), h mx (by simp)]
  · rw [h _ (by simp)]
  · rw [h _ (by simp)]
  · rename_i ty x ix; rw [h x (by simp), h ix (by simp)]
  · rename_i ty x ix; rw [h x (by simp), h ix (by simp)]
  · rw [h _ (by simp)]
  · rw [h _ (by simp)]
  · rw [h _ (by simp)]
  · rename_i args _; rw [evs_congr args.toList (fun x hx => h x (by simpa using hx))]
  · rename_i args _; rw [evs_congr args.toList (fun x hx => h x (by simpa using hx))]
  · rfl
theorem alloc_congr {t t' : List AV} {n : Nat} {o : Op} (h : ∀ x ∈ o.operands, evA t x = evA t' x) : allocA P t n o = allocA P t' n o := by
  unfold allocA
  split <;> simp only [Op.operands, Call.operands] at h
  · rfl
  · rw [h _ (by simp)]
  · rename_i ty len parts; rw [evParts_congr parts.toList (fun x hx => h x.2 (by simp; exact ⟨x.1, by simpa using hx⟩))]
  · rename_i ty l c; rw [h l (by simp), h c (by simp)]
  · rfl
theorem read_congr {t t' : List AV} {o : Op} (h : ∀ x ∈ o.operands, evA t x = evA t' x) : readA P t o = readA P t' o := by
  unfold readA
  split <;> simp only [Op.operands, Call.operands] at h
  · rw [h _ (by simp)]
  · rw [h _ (by simp)]
  · rfl
theorem eff_congr {t t' : List AV} {s : St} {o : Op} (h : ∀ x ∈ o.operands, evA t x = evA t' x) : effA P call t s o = effA P call t' s o := by
  unfold effA
  split <;> simp only [Op.operands, Call.operands] at h
  · rename_i ty p x; rw [h p (by simp), h x (by simp)]
  · rename_i s x ty u; rw [h s (by simp), h x (by simp)]
  · rename_i s x ty u; rw [h s (by simp), h x (by simp)]
  · rw [h _ (by simp)]
  · rename_i f args ats; rw [h f (by simp), evs_congr args.toList (fun x hx => h x (by simp at hx ⊢; exact .inr hx))]
  · rfl
theorem op_congr {t t' : List AV} {s : St} {o : Op} (h : ∀ x ∈ o.operands, evA t x = evA t' x) : opS P call t s o = opS P call t' s o := by
  unfold opS
  rw [pure_congr h, alloc_congr h, read_congr h, eff_congr h]

theorem rd_congr {t t' : List AV} {o : Op} (h : ∀ x ∈ o.operands, evA t x = evA t' x) : rdOf P t o = rdOf P t' o := by
  unfold rdOf
  rw [read_congr h]

theorem putA_length (t : List AV) (d : Option Tmp) (v : AV) : (putA t d v).length = t.length := by cases d <;> simp [putA]
theorem putA_other (t : List AV) (d : Option Tmp) (v : AV) (s : Nat) (h : d ≠ some s) : (putA t d v).getD s undefA = t.getD s undefA := by
  cases d with
  | none => rfl
  | some d => simp only [putA, List.getD]; rw [List.getElem?_set_ne (fun e => h (by rw [e]))]
theorem putA_same (t t' : List AV) (d : Tmp) (v : AV) (h : t.length = t'.length) : (putA t (some d) v).getD d undefA = (putA t' (some d) v).getD d undefA := by
  simp only [putA, List.getD]
  by_cases hd : d < t.length
  · have hd' : d < t'.length := by rw [← h]; exact hd
    simp [hd, hd']
  · have hd' : ¬ d < t'.length := by rw [← h]; exact hd
    simp [hd, hd']


/-- What is known of the text's order. -/
structure Text (P : Program) (call : CallS) (ops : Array Oper) (bef : List Nat) (T : Nat → List AV) (S : Nat → St) : Prop where
  step : ∀ (p : Nat) (o : Oper), ops[p]? = some o → ∃ l, stepS P call ops p o (T p) (S p) = some (T (p + 1), S (p + 1), l)
  stable : ∀ (p : Nat) (o : Oper) (q : Gd) (l : Loc) (mk : Made), ops[p]? = some o → isRead P o.op = true → guardS ops (T p) o = some q → q.goes = true → readA P (T p) o.op = some (.at l mk) →
    ∀ (e : Nat) (oe : Oper) (qe : Gd), ops[e]? = some oe → isEff P oe.op = true → guardS ops (T e) oe = some qe → qe.goes = true → ordA bef p e = false → ordA bef e p = false → l.blk < (S e).length → (S (e + 1))[l.blk]? = (S e)[l.blk]?
  pair : ∀ (i j : Nat) (x y : Oper), i < j → ops[i]? = some x → ops[j]? = some y → ordA bef i j = true ∨ (x.apart ops y = true ∧ ¬ (isEff P x.op = true ∧ isEff P y.op = true))
  edges : ∀ (j : Nat) (o : Oper) (e : Edge), ops[j]? = some o → e ∈ o.after.toList → Region.binds .any e = true → e.on < j
  closed : ∀ (L : Nat → Prop), (∀ (j : Nat) (o : Oper) (e : Edge), ops[j]? = some o → L j → e ∈ o.after.toList → Region.binds .any e = true → L e.on) → ∀ i j o, ops[j]? = some o → L j → ordA bef i j = true → L i

variable {ops : Array Oper} {bef : List Nat} {T : Nat → List AV} {S : Nat → St}

theorem Text.does (X : Text P call ops bef T S) {p : Nat} {o : Oper} (ho : ops[p]? = some o) : ∃ q, guardS ops (T p) o = some q ∧ ((q.goes = false ∧ T (p + 1) = putA (T p) o.dst undefA ∧ S (p + 1) = S p) ∨
    (q.goes = true ∧ ∃ v tch, (opS P call (T p) (S p) o.op).run = some (v, S (p + 1), tch) ∧ T (p + 1) = putA (T p) o.dst v)) := by
  obtain ⟨l, e⟩ := X.step p o ho
  obtain ⟨q, hq, ⟨h1, h2, h3, _⟩ | ⟨h1, v, tch, h2, h3, _⟩⟩ := step_put e
  · exact ⟨q, hq, .inl ⟨h1, h2, h3⟩⟩
  · exact ⟨q, hq, .inr ⟨h1, v, tch, h2, h3⟩⟩
theorem Text.n_step (hc : CallOk P call) (X : Text P call ops bef T S) {p : Nat} (hp : p < ops.size) : (S p).length ≤ (S (p + 1)).length := by
  obtain ⟨l, e⟩ := X.step p ops[p] (Array.getElem?_eq_getElem hp)
  exact step_n hc e
theorem Text.n_mono (hc : CallOk P call) (X : Text P call ops bef T S) {p : Nat} : ∀ (q : Nat), q ≤ ops.size → p ≤ q → (S p).length ≤ (S q).length := by
  intro q
  induction q with
  | zero => intro _ h; have : p = 0 := by omega
            subst this; exact Nat.le_refl _
  | succ q ih =>
    intro hq h
    by_cases e : p = q + 1
    · subst e; exact Nat.le_refl _
    · exact Nat.le_trans (ih (by omega) (by omega)) (X.n_step hc (by omega))
theorem Text.length (X : Text P call ops bef T S) : ∀ (q : Nat), q ≤ ops.size → (T q).length = (T 0).length := by
  intro q
  induction q with
  | zero => intro _; rfl
  | succ q ih =>
    intro hq
    obtain ⟨_, _, ⟨_, e1, _⟩ | ⟨_, v, _, _, e1⟩⟩ := X.does (Array.getElem?_eq_getElem (show q < ops.size by omega)) <;> rw [e1, putA_length] <;> exact ih (by omega)
/-- A slot stays as it is where nobody writes it. -/
theorem Text.same (X : Text P call ops bef T S) {t i : Nat} : ∀ (q : Nat), q ≤ ops.size → i ≤ q → (∀ k o, i ≤ k → k < q → ops[k]? = some o → o.dst ≠ some t) → (T q).getD t undefA = (T i).getD t undefA := by
  intro q
  induction q with
  | zero => intro _ h _; have : i = 0 := by omega
            subst this; rfl
  | succ q ih =>
    intro hq h hw
    by_cases e : i = q + 1
    · subst e; rfl
    · have hd := hw q ops[q] (by omega) (by omega) (Array.getElem?_eq_getElem (by omega))
      have h2 := ih (by omega) (by omega) (fun k o h1 h2 => hw k o h1 (by omega))
      obtain ⟨_, _, ⟨_, e1, _⟩ | ⟨_, v, _, _, e1⟩⟩ := X.does (Array.getElem?_eq_getElem (show q < ops.size by omega)) <;> rw [e1, putA_other _ _ _ _ hd] <;> exact h2

/-- Not an effect that is carried out: what is there stays. -/
def Idle (P : Program) (ops : Array Oper) (T : Nat → List AV) (p : Nat) : Prop := ∀ o q, ops[p]? = some o → isEff P o.op = true → guardS ops (T p) o = some q → q.goes = false
theorem clsOf_read {o : Op} (h : clsOf P o = .read) : isRead P o = true ∧ isEff P o = false := by simp [isRead, isEff, h]
theorem Text.idle_step (X : Text P call ops bef T S) {p : Nat} (hp : p < ops.size) (hi : Idle P ops T p) : ∀ id, id < (S p).length → (S (p + 1))[id]? = (S p)[id]? := by
  obtain ⟨q, hq, ⟨_, _, e1⟩ | ⟨hg, v, tch, hop, e1⟩⟩ := X.does (Array.getElem?_eq_getElem hp)
  · rw [e1]; exact fun _ _ => rfl
  · have hne : isEff P ops[p].op ≠ true := fun he => by rw [hi _ q (Array.getElem?_eq_getElem hp) he hq] at hg; cases hg
    unfold opS at hop
    split at hop
    · split at hop
      · obtain ⟨_, _, h, _⟩ := run_ok hop; rw [h]; exact fun _ _ => rfl
      · cases hop
    · split at hop
      · obtain ⟨_, _, h, _⟩ := run_ok hop; rw [h]; exact fun id hid => by rw [List.getElem?_append_left hid]
      · cases hop
    · split at hop
      · obtain ⟨_, _, h, _⟩ := run_ok hop; rw [h]; exact fun _ _ => rfl
      · split at hop
        · split at hop
          · obtain ⟨_, _, h, _⟩ := run_ok hop; rw [h]; exact fun _ _ => rfl
          · cases hop
        · cases hop
      · cases hop
    · rename_i hcls
      exact absurd (by simp [isEff, hcls]) hne
end

end Go.Sy
