/- A region in whatever order: the law. -/
import Derived.Test.YtekedhfmdpbplaaDenP
set_option linter.unusedSimpArgs false
set_option linter.unusedVariables false
namespace Go.Den
open Go

theorem countP_less {p q : Nat → Bool} (h : ∀ k, q k = true → p k = true) {a : Nat} (hp : p a = true) (hq : q a = false) : ∀ (l : List Nat), a ∈ l → l.countP q < l.countP p
  | [], ha => by cases ha
  | x :: l, ha => by
    have hle : ∀ (l : List Nat), l.countP q ≤ l.countP p := fun l => by
      induction l with
      | nil => exact Nat.le_refl _
      | cons y l ih =>
        rw [List.countP_cons, List.countP_cons]
        cases hqy : q y with
        | false => simp; omega
        | true => rw [h y hqy]; simp; omega
    rw [List.countP_cons, List.countP_cons]
    rcases List.mem_cons.1 ha with rfl | ha
    · have := hle l
      rw [hp, hq]; simp; omega
    · have := countP_less h hp hq l ha
      cases hqx : q x with
      | false => simp; omega
      | true => rw [h x hqx]; simp; omega

section
variable {P : Program} {call : CallA} {ops : Array Oper} {bef : List Nat} {T : Nat → List AV} {S : Nat → St} {ρ0 : Rho} {h0 : Hp} {w0 : World} {d0 : List Deferred}
variable {L : Nat → Prop} {ρ : Rho} {c : Nat} {C : List AV} {a : Act} {w : World}

theorem mem_looks {o : Oper} {t : Tmp} (h : .tmp t ∈ o.op.operands) : t ∈ o.looksAt ops := by
  unfold Oper.looksAt
  refine List.mem_append_left _ ?_
  rw [List.mem_filterMap]
  exact ⟨.tmp t, Array.mem_toList_iff.2 h, rfl⟩
theorem Inv.evs (X : Text P call ops bef T S) (I : Inv P call ops bef T S ρ0 h0 w0 d0 L ρ c C a w) {p : Nat} {o : Oper} (ho : ops[p]? = some o) (hL : ¬ L p) (hpre : ∀ e, e ∈ o.after.toList → Region.binds .any e = true → L e.on) :
    ∀ x, x ∈ o.op.operands → evA C x = evA (T p) x := fun x hx => by
  cases x with
  | tmp t => simp only [evA]; rw [I.sees X ho hL hpre (mem_looks hx)]
  | _ => rfl
theorem Inv.guards (X : Text P call ops bef T S) (I : Inv P call ops bef T S ρ0 h0 w0 d0 L ρ c C a w) {p : Nat} {o : Oper} (ho : ops[p]? = some o) (hL : ¬ L p) (hpre : ∀ e, e ∈ o.after.toList → Region.binds .any e = true → L e.on) :
    guardA ops C o = guardA ops (T p) o := by
  have hp : p < ops.size := (Array.getElem?_eq_some_iff.1 ho).1
  unfold guardA
  cases hgd : o.guard with
  | none => rfl
  | some q =>
    obtain ⟨j, want⟩ := q
    simp only
    cases hj : ops[j]? with
    | none => rfl
    | some g =>
      simp only
      cases hd : g.dst with
      | none => rfl
      | some d =>
        simp only
        have ht : d ∈ o.looksAt ops := by
          unfold Oper.looksAt
          refine List.mem_append_right _ ?_
          simp [hgd, hj, hd]
        have h1 := I.sees X ho hL hpre ht
        have hlen : C.length = (T p).length := by rw [I.clen, X.length p (by omega)]
        simp only [List.getD] at h1
        by_cases hlt : d < C.length
        · have hlt' : d < (T p).length := by rw [← hlen]; exact hlt
          rw [List.getElem?_eq_getElem hlt, List.getElem?_eq_getElem hlt'] at h1 ⊢
          simp only [Option.getD_some] at h1
          rw [h1]
        · have hlt' : ¬ d < (T p).length := by rw [← hlen]; exact hlt
          rw [List.getElem?_eq_none (Nat.le_of_not_lt hlt), List.getElem?_eq_none (Nat.le_of_not_lt hlt')]

/-- One operation whose turn has come. -/
theorem Inv.exec (ok : ProgOk P) (hc : CallOk P call) (X : Text P call ops bef T S) (hf : Fresh ρ0 h0 (S 0) (S ops.size)) (I : Inv P call ops bef T S ρ0 h0 w0 d0 L ρ c C a w) {p : Nat} {o : Oper} (ho : ops[p]? = some o) (hL : ¬ L p)
    (hpre : ∀ e, e ∈ o.after.toList → Region.binds .any e = true → L e.on) {K : Act → World → Prop} {Q : Exit → Act → World → Prop}
    (hK : ∀ ρ' c' C' a' w', Inv P call ops bef T S ρ0 h0 w0 d0 (fun k => L k ∨ k = p) ρ' c' C' a' w' → K a' w') : wpOp P ops Q p K a w := by
  have hp : p < ops.size := (Array.getElem?_eq_some_iff.1 ho).1
  have hg := I.guards X ho hL hpre
  have hev := I.evs X ho hL hpre
  unfold wpOp
  simp only [ho]
  rw [guard_eq I.tr ops o, hg]
  rcases step_put (X.step p o ho) with ⟨e0, e1, e2⟩ | ⟨e0, v, hop, e1⟩
  · rw [e0]
    simp only [Bool.false_eq_true, if_false]
    cases hE : isEff P o.op with
    | false => exact hK _ _ _ _ _ (I.quiet X ho hL hpre e1 hE (rel_undef ρ))
    | true => exact hK _ _ _ _ _ ((I.toEff hc X ho hL hpre hE).left hc X ho hL hpre e1 e2 hf)
  · rw [e0]
    simp only [if_true]
    refine .inl ?_
    cases hE : isEff P o.op with
    | true =>
      have I' := I.toEff hc X ho hL hpre hE
      rw [← op_congr hev] at hop
      have hfp : Fresh ρ (hS S ops.size h0 p) (S p) (S (p + 1)) := by
        have hm0 := X.n_mono hc (p := 0) p (by omega) (by omega)
        have hme := X.n_mono hc (p := p + 1) ops.size (Nat.le_refl _) (by omega)
        refine ⟨fun id h1 h2 => ?_, fun id h1 h2 ro x cs hcs => ?_⟩
        · have hρ0 : ρ0 id = none := hf.none id (by omega) (by omega)
          by_cases e : ρ id = ρ0 id
          · rw [e]; exact hρ0
          · exfalso
            obtain ⟨q, a1, a2, a3⟩ := I'.dom id e
            have := owner_unique hc X (I'.lt q a1) hp a2 a3 h1 h2
            subst this
            exact hL a1
        · have hm := X.n_step hc hp
          unfold hS at hcs
          rw [if_neg (by omega)] at hcs
          by_cases e : ρ id = ρ0 id
          · rcases Nat.lt_or_ge id (S ops.size).n with h3 | h3
            · have := hf.none id (by omega) h3
              rw [e, this] at h2; exact h2 rfl
            · rw [birth_far hc X h3] at hcs
              exact hf.far id h3 (by rw [← e]; exact h2) ro x cs hcs
          · obtain ⟨q, a1, a2, a3⟩ := I'.dom id e
            have hq := I'.lt q a1
            have hqp : p < q := by
              rcases Nat.lt_trichotomy p q with h | h | h
              · exact h
              · subst h; exact absurd a1 hL
              · have := X.n_mono hc (p := q + 1) p (by omega) (by omega); omega
            have hidle : Idle P ops T q := fun oq hoq heq => by have := (I'.cut q oq hoq heq).1 a1; omega
            obtain ⟨cs', hcs'⟩ := (X.idle_step hq hidle).2.1 id a2 a3
            rw [birth_eq hc X hq a2 a3, hcs'] at hcs
            cases hcs
      refine op_sound ok hc I'.hr I'.ag I'.tr hop hfp (fun ρ' w' u hpst hv => hK _ _ _ _ _ (I'.done hc X ho hL hpre e1 hpst hv hf))
    | false =>
      have hop' := hop
      unfold opA at hop
      split at hop
      · rename_i hcl
        split at hop
        · rename_i v0 hv
          simp only [Option.some.injEq, Prod.mk.injEq] at hop
          obtain ⟨rfl, hS'⟩ := hop
          rw [← pure_congr hev] at hv
          obtain ⟨u, h1, h2⟩ := pure_sound (P := P) w I.tr hv
          unfold Oper.wp
          rw [h1, Oper.upon_value]
          exact hK _ _ _ _ _ (I.quiet X ho hL hpre e1 hE h2)
        · cases hop
      · rename_i hcl
        split at hop
        · rename_i v0 cs hv
          simp only [Option.some.injEq, Prod.mk.injEq] at hop
          obtain ⟨rfl, hS'⟩ := hop
          rw [← alloc_congr hev] at hv
          obtain ⟨u, vs, ty, h1, h2, h3⟩ := alloc_real (P := P) w I.tr hv
          unfold Oper.wp
          rw [h1, Oper.upon_value]
          obtain ⟨ρ', I'⟩ := I.made hc X ho hL hpre (ty := ty) e1 hS'.symm hE h2 hf h3
          exact hK _ _ _ _ _ I'
        · cases hop
      · rename_i hcl
        have hR : isRead P o.op = true := by simp [isRead, hcl]
        split at hop
        · rename_i b off k mk hv
          split at hop
          · rename_i l hl
            split at hop
            · rename_i v0 hm
              simp only [Option.some.injEq, Prod.mk.injEq] at hop
              obtain ⟨rfl, hS'⟩ := hop
              obtain ⟨ro, fam, cs, hb, hrd⟩ := I.reads hc X ho hL hpre hR e0 hv hl
              rw [← read_congr hev] at hv
              obtain ⟨u, h1, h2⟩ := read_real (P := P) I.hr I.tr hv hb hrd hm
              unfold Oper.wp
              rw [h1, Oper.upon_value]
              exact hK _ _ _ _ _ (I.quiet X ho hL hpre e1 hE h2)
            · cases hop
          · cases hop
        · cases hop
      · rename_i hcl
        simp [isEff, hcl] at hE

theorem Inv.congr {L' : Nat → Prop} (I : Inv P call ops bef T S ρ0 h0 w0 d0 L ρ c C a w) (h : ∀ k, L k ↔ L' k) : Inv P call ops bef T S ρ0 h0 w0 d0 L' ρ c C a w := by
  have : L = L' := funext fun k => propext (h k)
  subst this; exact I

/-- All of them. -/
theorem any_sound (ok : ProgOk P) (hc : CallOk P call) (X : Text P call ops bef T S) (hf : Fresh ρ0 h0 (S 0) (S ops.size)) {Q : Exit → Act → World → Prop}
    (hQ : ∀ (L : Nat → Prop) ρ c C a w, (∀ k, k < ops.size → L k) → Inv P call ops bef T S ρ0 h0 w0 d0 L ρ c C a w → Q .normal a w) :
    ∀ (fuel : Nat) (listed : Array Bool) (ρ : Rho) (c : Nat) (C : List AV) (a : Act) (w : World), listed.size = ops.size → Inv P call ops bef T S ρ0 h0 w0 d0 (fun k => listed.getD k false = true) ρ c C a w →
      (List.range ops.size).countP (fun k => !listed.getD k false) ≤ fuel → wpAny P .any ops Q fuel listed a w := by
  have hdone : ∀ (listed : Array Bool), listed.size = ops.size → (∀ (j : Nat) (o : Oper) (e : Edge), ops[j]? = some o → e ∈ o.after.toList → Region.binds .any e = true → e.on < j) → Region.ready .any ops listed = [] → ∀ k, k < ops.size → listed.getD k false = true := by
    intro listed hsz hedge hr k
    induction k using Nat.strongRecOn with
    | _ k ih =>
      intro hk
      cases hl : listed.getD k false with
      | true => rfl
      | false =>
        exfalso
        have hm : k ∈ Region.ready .any ops listed := by
          unfold Region.ready
          rw [List.mem_filter]
          refine ⟨by simpa using hk, ?_⟩
          have h1 : listed.getD k true = false := by
            rw [Array.getD_eq_getD_getElem?] at hl ⊢
            rw [Array.getElem?_eq_getElem (by omega)] at hl ⊢
            simpa using hl
          have h2 : ops[k]? = some ops[k] := Array.getElem?_eq_getElem hk
          rw [h1, h2]
          simp only [Bool.not_false, Bool.true_and, Option.map_some, Option.getD_some]
          rw [Array.all_eq_true_iff_forall_mem]
          intro e he
          simp only [Bool.or_eq_true, Bool.not_eq_true']
          cases hb : Region.binds .any e with
          | false => exact .inl rfl
          | true =>
            have := hedge k ops[k] e h2 (Array.mem_toList_iff.2 he) hb
            exact .inr (ih e.on this (by omega))
        rw [hr] at hm
        cases hm
  intro fuel
  induction fuel with
  | zero =>
    intro listed ρ c C a w hsz I hcount
    have hall : ∀ k, k < ops.size → listed.getD k false = true := fun k hk => by
      have : (List.range ops.size).countP (fun k => !listed.getD k false) = 0 := by omega
      rw [List.countP_eq_zero] at this
      have := this k (by simpa using hk)
      simpa using this
    refine ⟨?_, hQ _ ρ c C a w hall I⟩
    unfold Region.ready
    rw [List.filter_eq_nil_iff]
    intro k hk
    simp at hk
    have h := hall k hk
    have h1 : listed.getD k true = true := by
      rw [Array.getD_eq_getD_getElem?] at h ⊢
      rw [Array.getElem?_eq_getElem (by omega)] at h ⊢
      simpa using h
    simp [h1]
  | succ fuel ih =>
    intro listed ρ c C a w hsz I hcount
    refine ⟨fun hr => hQ _ ρ c C a w (hdone listed hsz X.edges hr) I, fun i hi => ?_⟩
    unfold Region.ready at hi
    rw [List.mem_filter] at hi
    obtain ⟨hin, hi⟩ := hi
    simp at hin
    rw [Bool.and_eq_true] at hi
    obtain ⟨h1, h2⟩ := hi
    have hlt : i < listed.size := by omega
    have hLi : ¬ listed.getD i false = true := by
      rw [Array.getD_eq_getD_getElem?] at h1 ⊢
      rw [Array.getElem?_eq_getElem hlt] at h1 ⊢
      simpa using h1
    have ho : ops[i]? = some ops[i] := Array.getElem?_eq_getElem hin
    rw [ho] at h2
    simp only [Option.map_some, Option.getD_some] at h2
    rw [Array.all_eq_true_iff_forall_mem] at h2
    refine I.exec ok hc X hf ho hLi (fun e he hb => ?_) (fun ρ' c' C' a' w' I' => ?_)
    · have := h2 e (Array.mem_toList_iff.1 he)
      rw [hb] at this
      simpa using this
    · have hset : ∀ k, (listed.setIfInBounds i true).getD k false = true ↔ (listed.getD k false = true ∨ k = i) := fun k => by
        rw [Array.getD_eq_getD_getElem?, Array.getD_eq_getD_getElem?]
        by_cases hk : k = i
        · subst hk; simp [hlt]
        · rw [Array.getElem?_setIfInBounds_ne (fun e => hk e.symm)]
          simp [hk]
      refine ih _ ρ' c' C' a' w' (by simpa using hsz) (I'.congr (fun k => (hset k).symm)) ?_
      have hless : (List.range ops.size).countP (fun k => !(listed.setIfInBounds i true).getD k false) < (List.range ops.size).countP (fun k => !listed.getD k false) := by
        refine countP_less (fun k hk => ?_) (a := i) (by simpa using hLi) (by rw [(hset i).2 (.inr rfl)]; rfl) _ (by simpa using hin)
        simp only [Bool.not_eq_true'] at hk ⊢
        cases hh : listed.getD k false with
        | false => rfl
        | true => rw [(hset k).2 (.inl hh)] at hk; cases hk
      omega
end

end Go.Den
