/- Slots at a loop's head; a call's end; functions and loops by their text. -/
import Derived.Test.YtkfdfenaaidkkaaSyU
set_option linter.unusedSimpArgs false
set_option linter.unusedVariables false
namespace Go.Sy
open Go

/- ### slots that are kept -/
def RelTs (ρ : Rho) : List AV → List Value → Prop
  | [], us => us = []
  | a :: as, us => ∃ u us', us = u :: us' ∧ RelT ρ a u ∧ RelTs ρ as us'
theorem RelTs.mono {ρ ρ' : Rho} (hle : ρ.le ρ') : ∀ {as : List AV} {us : List Value}, RelTs ρ as us → RelTs ρ' as us
  | [], us, h => h
  | a :: as, us, h => by
    obtain ⟨u, us', h1, h2, h3⟩ := h
    exact ⟨u, us', h1, h2.mono hle, RelTs.mono hle h3⟩
theorem RelTs.of_get {ρ : Rho} : ∀ {as : List AV} {us : List Value}, as.length = us.length → (∀ t : Nat, RelT ρ (as.getD t undefA) (us.getD t undef)) → RelTs ρ as us
  | [], us, hl, h => by simp at hl; exact List.eq_nil_of_length_eq_zero hl.symm
  | a :: as, [], hl, h => by simp at hl
  | a :: as, u :: us, hl, h => ⟨u, us, rfl, by simpa using h 0, RelTs.of_get (by simpa using hl) (fun t => by simpa using h (t + 1))⟩
theorem RelTs.get {ρ : Rho} : ∀ {as : List AV} {us : List Value}, RelTs ρ as us → as.length = us.length ∧ ∀ t : Nat, RelT ρ (as.getD t undefA) (us.getD t undef)
  | [], us, h => by
    simp only [RelTs] at h
    subst h
    exact ⟨rfl, fun t => .inr (by simpa using rel_undef ρ)⟩
  | a :: as, us, h => by
    obtain ⟨u, us', rfl, h2, h3⟩ := h
    obtain ⟨k1, k2⟩ := RelTs.get h3
    refine ⟨by simp [k1], fun t => ?_⟩
    cases t with
    | zero => simpa using h2
    | succ t => simpa using k2 t
theorem TR.list {ρ : Rho} {t : List AV} {arr : Array Value} (h : TR ρ t arr) : RelTs ρ t arr.toList :=
  RelTs.of_get (by rw [h.1]; simp) (fun i => by
    have := h.2 i
    rwa [show arr.getD i undef = arr.toList.getD i undef by rw [Array.getD_eq_getD_getElem?, List.getD]; simp] at this)
theorem RelTs.tr {ρ : Rho} {t : List AV} {arr : Array Value} (h : RelTs ρ t arr.toList) : TR ρ t arr := by
  obtain ⟨h1, h2⟩ := h.get
  refine ⟨by simpa using h1, fun i => ?_⟩
  have := h2 i
  rwa [show arr.toList.getD i undef = arr.getD i undef by rw [Array.getD_eq_getD_getElem?, List.getD]; simp] at this
theorem keepV_sound {m : Nat} {ρ : Rho} {s : St} {w : World} {k : Keep} {v v' : AV} {x : List Ent} {u : Value} (e : keepV s.length k v = some (v', x)) (hi : InvC ρ s w) (hn : m ≤ s.length) (hr : RelT ρ v u) :
    ∃ ρ', PostC m ρ s w ρ' (s ++ x) w ∧ ρ.le ρ' ∧ RelT ρ' v' u := by
  unfold keepV at e
  split at e
  · cases e
    exact ⟨ρ, by rw [List.append_nil]; exact PostC.refl hi hn, Rho.le.rfl, .inl rfl⟩
  · cases e
    exact ⟨ρ, by rw [List.append_nil]; exact PostC.refl hi hn, Rho.le.rfl, hr⟩
  · rename_i sh
    cases e
    rcases hr with hr | hr
    · cases hr
    · simp only [Rel] at hr
      subst hr
      have hp := fork_nil (x := .tbl false sh []) hi.hr (hpS_agree s) Kept.self hi.fresh (by simp [Ent.view, flat])
      refine ⟨_, hp.toC hi hn, hp.ext, .inr ?_⟩
      simp only [Rel]
      exact ⟨0, 0, 0, Rho.put_same _ _ _, .inl (by simp [Cap.top])⟩
  · rename_i sh nn e' b off len cap
    split at e
    · rename_i hb ho
      cases e
      have := Sh.beq_eq _ _ hb
      subst this
      have ho := beq_true_eq ho
      subst ho
      refine ⟨ρ, by rw [List.append_nil]; exact PostC.refl hi hn, Rho.le.rfl, .inr ?_⟩
      rcases hr with hr | hr
      · cases hr
      · simp only [Rel] at hr ⊢
        obtain ⟨B, o, r, h1, ⟨_, h2⟩ | h2⟩ := hr
        · exact ⟨B, o, r, h1, .inl ⟨trivial, h2⟩⟩
        · exact ⟨B, o, r, h1, .inr h2⟩
    · rename_i k hb ho
      cases e
      have := Sh.beq_eq _ _ hb
      subst this
      have ho := beq_true_eq ho
      subst ho
      refine ⟨ρ, by rw [List.append_nil]; exact PostC.refl hi hn, Rho.le.rfl, .inr ?_⟩
      rcases hr with hr | hr
      · cases hr
      · simp only [Rel] at hr ⊢
        obtain ⟨B, o, r, h1, ⟨_, h2, h3, h4, h5⟩ | ⟨c, h2, h3, h4, h5, h6⟩⟩ := hr
        · exact ⟨B, o, r, h1, .inl ⟨trivial, h2, by simp [Cap.top, h2], h4, h5⟩⟩
        · refine ⟨B, o, r, h1, .inr ⟨c, by simp [Cap.top], ?_, trivial, h5, h6⟩⟩
          simp only [Cap.top] at h2 h3 ⊢
          omega
    · cases e
  · cases e
theorem keepVs_sound {m : Nat} {w : World} : ∀ (vs : List AV) (ks : List Keep) (s : St) (ρ : Rho) (vs' : List AV) (x : List Ent) (us : List Value), keepVs s.length ks vs = some (vs', x) → InvC ρ s w → m ≤ s.length → RelTs ρ vs us →
    ∃ ρ', PostC m ρ s w ρ' (s ++ x) w ∧ ρ.le ρ' ∧ RelTs ρ' vs' us
  | [], ks, s, ρ, vs', x, us, e, hi, hn, hr => by
    have : keepVs s.length ks [] = some ([], []) := by cases ks <;> rfl
    rw [this] at e; cases e
    exact ⟨ρ, by rw [List.append_nil]; exact PostC.refl hi hn, Rho.le.rfl, hr⟩
  | v :: vs, [], s, ρ, vs', x, us, e, hi, hn, hr => by
    simp only [keepVs] at e
    split at e
    · cases e
    · rename_i l y hl
      cases e
      obtain ⟨u, us', rfl, h1, h2⟩ := hr
      obtain ⟨ρ', k1, k2, k3⟩ := keepVs_sound vs [] s ρ l x us' hl hi hn h2
      exact ⟨ρ', k1, k2, u, us', rfl, .inl rfl, k3⟩
  | v :: vs, k :: ks, s, ρ, vs', x, us, e, hi, hn, hr => by
    simp only [keepVs] at e
    split at e
    · cases e
    · rename_i v' x1 hv
      split at e
      · cases e
      · rename_i l y hl
        cases e
        obtain ⟨u, us', rfl, h1, h2⟩ := hr
        obtain ⟨ρ1, k1, k2, k3⟩ := keepV_sound (m := m) hv hi hn h1
        rw [← List.length_append] at hl
        obtain ⟨ρ2, m1, m2, m3⟩ := keepVs_sound (m := m) vs ks (s ++ x1) ρ1 l y us' hl k1.inv (by rw [List.length_append]; omega) (h2.mono k2)
        rw [List.append_assoc] at m1
        exact ⟨ρ2, k1.trans m1, k2.trans m2, u, us', rfl, k3.mono m2, m3⟩
theorem compact_len {n : Nat} {vs vs' : List AV} {s s' : St} (e : compact n vs s = some (vs', s')) : n ≤ s'.length := by
  unfold compact at e
  simp only at e
  split at e
  · rename_i hchk
    cases e
    simp only [Bool.and_eq_true] at hchk
    have hpre := eqNats_eq hchk.2
    have hl : ∀ n, (upto n).length = n := fun n => by induction n with
      | zero => rfl
      | succ n ih => simp [upto, ih]
    have := congrArg List.length hpre
    rw [hl, List.length_take] at this
    rw [picks_length]
    omega
  · cases e
theorem head_sound {n : Nat} {ks : List Keep} {t t' : List AV} {s s' : St} (e : headS n ks t s = some (t', s')) (hn : n ≤ s.length) : n ≤ s'.length ∧
    ∀ (ρ : Rho) (w : World) (arr : Array Value), InvC ρ s w → TR ρ t arr → ∃ ρ1, PostC n ρ s w ρ1 s' w ∧ TR ρ1 t' arr := by
  unfold headS at e
  split at e
  · cases e
  · rename_i t1 x h1
    refine ⟨compact_len e, fun ρ w arr hi htr => ?_⟩
    obtain ⟨ρ1, k1, k2, k3⟩ := keepVs_sound (m := n) (w := w) t ks s ρ t1 x arr.toList h1 hi hn htr.list
    obtain ⟨_, ρ2, m1, _, m2⟩ := compact_sound k1.inv (by rw [List.length_append]; omega) e
    exact ⟨ρ2, k1.trans m1, m2 arr k3.tr⟩
theorem headK_some {n : Nat} {ks : List Keep} {k : List AV → St → Prop} {t : List AV} {s : St} (h : headK n ks k t s) : ∃ t' s', headS n ks t s = some (t', s') ∧ k t' s' := by
  unfold headK at h
  split at h
  · rename_i t' s' e; exact ⟨t', s', e, h⟩
  · exact h.elim

/- ### a call's end -/
theorem finish_sound {n : Nat} {ms : List Mode} {v v' : AV} {s s' : St} (e : finishS n ms v s = some (true, v', s')) (hn : n ≤ s.length) : n ≤ s'.length ∧
    ∀ (ρ : Rho) (w : World) (u : Value), InvC ρ s w → Rel ρ v u → ∃ ρ1, PostC n ρ s w ρ1 s' w ∧ Rel ρ1 v' u := by
  have go : ∀ (vs vs' : List AV) (fr : List Nat) (l : List AV) (s2 : St), modesS s ms vs = some (true, vs', fr) → compact n vs' (freeze s fr) = some (l, s2) → n ≤ s2.length ∧
      ∀ (ρ : Rho) (w : World) (us : List Value), InvC ρ s w → Rels ρ vs us → ∃ ρ1, PostC n ρ s w ρ1 s2 w ∧ Rels ρ1 l us := by
    intro vs vs' fr l s2 h1 h2
    refine ⟨compact_len h2, fun ρ w us hi hr => ?_⟩
    obtain ⟨ρ1, hp1, _, hF⟩ := freeze_post fr hi.hr (hpS_agree s) (modes_ids (hi.hr.cellsOf (hpS_agree s)) h1 hr)
    have hpc := hp1.toC hi hn
    have hargs := modes_sound h1 (Rels.mono hp1.ext _ _ hr) hF
    obtain ⟨_, ρ2, m1, m2, _⟩ := compact_sound hpc.inv (by rw [freeze_length]; exact hn) h2
    exact ⟨ρ2, hpc.trans m1, m2 us hargs⟩
  unfold finishS at e
  split at e
  · rename_i vs
    split at e
    · cases e
    · rename_i g vs' fr h1
      split at e
      · rename_i l s2 h2
        simp only [Option.some.injEq, Prod.mk.injEq] at e
        obtain ⟨rfl, rfl, rfl⟩ := e
        obtain ⟨k1, k2⟩ := go vs vs' fr l s2 h1 h2
        refine ⟨k1, fun ρ w u hi hr => ?_⟩
        simp only [Rel] at hr
        obtain ⟨us, rfl, hr⟩ := hr
        obtain ⟨ρ1, m1, m2⟩ := k2 ρ w us hi hr
        exact ⟨ρ1, m1, by simp only [Rel]; exact ⟨us, rfl, m2⟩⟩
      · cases e
  · split at e
    · cases e
    · rename_i g vs' fr h1
      split at e
      · rename_i v2 s2 h2
        simp only [Option.some.injEq, Prod.mk.injEq] at e
        obtain ⟨rfl, rfl, rfl⟩ := e
        obtain ⟨k1, k2⟩ := go [v] vs' fr [v2] s2 h1 h2
        refine ⟨k1, fun ρ w u hi hr => ?_⟩
        obtain ⟨ρ1, m1, m2⟩ := k2 ρ w [u] hi (Rels.cons hr Rels.nil)
        simp only [Rels] at m2
        obtain ⟨u', us', e', m3, rfl⟩ := m2
        cases e'
        exact ⟨ρ1, m1, m3⟩
      · cases e

section
variable {P : Program}
def resF (arr : Array Value) : ResultVar → Sem Value
  | .tmp t => pure (arr.getD t undef)
  | .cell a t => do loadVar t (← asAddr (arr.getD a undef))
theorem results_eq (fn : Func) (arr : Array Value) : results fn arr = (do let vs ← fn.results.mapM (resF arr); pure (if h : vs.size = 1 then vs[0] else .tuple vs)) := by
  rfl
theorem res_sound {ρ : Rho} {w : World} {s : St} {tmps : List AV} {arr : Array Value} (hr : HR ρ (hpS s) w) (htr : TR ρ tmps arr) : ∀ (rs : List ResultVar) (l : List AV), resS P s tmps rs = some l →
    ∃ vs, Rels ρ l vs ∧ (rs.mapM (resF arr)).run P w = .ok vs w
  | [], l, e => by simp only [resS] at e; cases e; exact ⟨[], Rels.nil, rfl⟩
  | .tmp t :: rs, l, e => by
    simp only [resS] at e
    split at e
    · rename_i v l' hv hl'
      cases e
      obtain ⟨vs, h1, h2⟩ := res_sound hr htr rs l' hl'
      obtain ⟨rfl, hne⟩ := known_some hv
      have hrel : Rel ρ (tmps.getD t undefA) (arr.getD t undef) := (htr.2 t).resolve_left hne
      refine ⟨arr.getD t undef :: vs, Rels.cons hrel h1, ?_⟩
      rw [List.mapM_cons]
      simp only [Sem.run_bind, resF, Sem.run_pure, Result.andThen_ok]
      rw [h2]
      rfl
    · cases e
  | .cell c t :: rs, l, e => by
    simp only [resS] at e
    split at e
    · rename_i b off n mk hrd
      split at e
      · rename_i x hx
        split at e
        · rename_i v hm
          split at e
          · rename_i l' hl'
            cases e
            obtain ⟨vs, h1, h2⟩ := res_sound hr htr rs l' hl'
            obtain ⟨u, h3, h4⟩ := rd_at_sound (P := P) (h := hpS s) (a := { tmps := arr, defers := [] }) (o := { dst := none, op := .load t (.tmp c), type := 0, pos := "", after := #[], guard := none }) hr htr hrd hx hm
            have hp : ∃ p, arr.getD c undef = .pointer (some p) := by
              have htc := htr.2 c
              simp only [readA, evA] at hrd
              split at hrd
              · rename_i b' off' hx'
                obtain ⟨e1, hne⟩ := known_some hx'
                rw [← e1] at htc hne
                have := htc.resolve_left hne
                simp only [Rel] at this
                obtain ⟨B, o, r, _, e⟩ := this
                exact ⟨_, e⟩
              · rename_i e' b' i' fo' hx'
                obtain ⟨e1, hne⟩ := known_some hx'
                rw [← e1] at htc hne
                exact (htc.resolve_left hne).eptr_form
              · rename_i sh' d' hx'
                obtain ⟨e1, hne⟩ := known_some hx'
                rw [← e1] at htc hne
                exact (htc.resolve_left hne).fref_form
              · cases hrd
            obtain ⟨p, hp⟩ := hp
            have h5 : (loadVar t p).run P w = .ok u w := by
              simp only [execOp, Instr.loadAt, Act.eval, hp, Instr.sureAddr, Sem.run_bind, Sem.run_pure, Result.andThen_ok] at h3
              revert h3
              cases (loadVar t p).run P w <;> simp [Result.andThen]
            refine ⟨u :: vs, Rels.cons h4 h1, ?_⟩
            rw [List.mapM_cons]
            have h6 : (resF arr (.cell c t)).run P w = .ok u w := by simp only [resF, Sem.run_bind, hp, asAddr, Sem.run_pure, Result.andThen_ok, h5]
            rw [Sem.run_bind, h6]
            simp only [Result.andThen_ok, Sem.run_bind, h2, Sem.run_pure]
          · cases e
        · cases e
      · cases e
    · cases e
theorem result_sound {ρ : Rho} {w : World} {s : St} {tmps : List AV} {arr : Array Value} {fn : Func} {v : AV} (hr : HR ρ (hpS s) w) (htr : TR ρ tmps arr) (e : resultS P s tmps fn.results.toList = some v) :
    ∃ u, (results fn arr).run P w = .ok u w ∧ Rel ρ v u := by
  unfold resultS at e
  have key : ∀ vs, (fn.results.toList.mapM (resF arr)).run P w = .ok vs w → (results fn arr).run P w = .ok (if h : vs.toArray.size = 1 then vs.toArray[0] else .tuple vs.toArray) w := by
    intro vs h2
    rw [results_eq, Array.mapM_eq_mapM_toList]
    simp only [Sem.run_bind, Sem.run_map, h2, Result.andThen_ok]
    rfl
  split at e
  · rename_i x hx
    cases e
    obtain ⟨vs, h1, h2⟩ := res_sound (P := P) hr htr _ _ hx
    have h3 := key _ h2
    simp only [Rels] at h1
    obtain ⟨u, us, rfl, h4, rfl⟩ := h1
    exact ⟨u, by rw [h3]; rfl, h4⟩
  · rename_i l hne hx
    cases e
    obtain ⟨vs, h1, h2⟩ := res_sound (P := P) hr htr _ _ hx
    have h3 := key _ h2
    have hl := h1.length
    have hne1 : ¬ vs.toArray.size = 1 := fun e1 => by
      simp at e1
      have : l.length = 1 := by omega
      obtain ⟨x, rfl⟩ := List.length_eq_one_iff.1 this
      exact hne x rfl
    exact ⟨.tuple vs.toArray, by rw [h3, dif_neg hne1], by simp only [Rel]; exact ⟨vs, rfl, h1⟩⟩
  · cases e
theorem pad_rel (ρ : Rho) : ∀ n, Rels ρ (padA n) (List.replicate n undef)
  | 0 => Rels.nil
  | n + 1 => Rels.cons (rel_undef ρ) (pad_rel ρ n)
theorem Rels.tr {ρ : Rho} {l : List AV} {vs : List Value} (h : Rels ρ l vs) : TR ρ l vs.toArray := by
  refine ⟨by simp [h.length], fun t => .inr ?_⟩
  have hl := h.length
  simp only [List.getD, Array.getD_eq_getD_getElem?, List.getElem?_toArray]
  by_cases ht : t < l.length
  · obtain ⟨v, hv, hr⟩ := h.get t l[t] (List.getElem?_eq_getElem ht)
    rw [List.getElem?_eq_getElem ht, hv]
    exact hr
  · rw [List.getElem?_eq_none (by omega), List.getElem?_eq_none (by omega)]
    exact rel_undef ρ

/- ### loops, functions -/
def blockOf (P : Program) (g : FuncId) (id : Nat) : Option Code :=
  match P.funcs[g]? with
  | some fn => match fn.body with
    | some c => lookC id (blocksC c)
    | none => none
  | none => none
/-- Of a function's loops whose outcome is told. -/
def LoopsFor (P : Program) (g : FuncId) (n : Nat) (lp : Nat → Option LoopS) : Prop :=
  ∀ id F, lp id = some F → ∀ c, blockOf P g id = some c → ∀ t s k, n ≤ s.length → F t s k → RK n (fun Q => (Code.block id c).wp P Q) t s k
def distinctOk (P : Program) (g : FuncId) : Bool :=
  match P.funcs[g]? with
  | some fn => match fn.body with
    | some c => distinctC (blocksC c)
    | none => true
  | none => true
theorem noLoops {g : FuncId} {n : Nat} : LoopsFor P g n (fun _ => none) := fun id F h => by cases h
theorem blocks_draws : ∀ (c : Code), drawsOkA P c = true → ∀ p ∈ blocksC c, drawsOkA P p.2 = true ∧ ∀ q ∈ blocksC p.2, q ∈ blocksC c
  | .seq a b, hd, p, hp => by
    simp only [drawsOkA, Bool.and_eq_true] at hd
    simp only [blocksC, List.mem_append] at hp
    rcases hp with hp | hp
    · exact ⟨(blocks_draws a hd.1 p hp).1, fun q hq => by simp [blocksC, (blocks_draws a hd.1 p hp).2 q hq]⟩
    · exact ⟨(blocks_draws b hd.2 p hp).1, fun q hq => by simp [blocksC, (blocks_draws b hd.2 p hp).2 q hq]⟩
  | .cond _ a b, hd, p, hp => by
    simp only [drawsOkA, Bool.and_eq_true] at hd
    simp only [blocksC, List.mem_append] at hp
    rcases hp with hp | hp
    · exact ⟨(blocks_draws a hd.1 p hp).1, fun q hq => by simp [blocksC, (blocks_draws a hd.1 p hp).2 q hq]⟩
    · exact ⟨(blocks_draws b hd.2 p hp).1, fun q hq => by simp [blocksC, (blocks_draws b hd.2 p hp).2 q hq]⟩
  | .block id a, hd, p, hp => by
    simp only [drawsOkA] at hd
    simp only [blocksC, List.mem_cons] at hp
    rcases hp with rfl | hp
    · exact ⟨hd, fun q hq => by simp [blocksC, hq]⟩
    · exact ⟨(blocks_draws a hd p hp).1, fun q hq => by simp [blocksC, (blocks_draws a hd p hp).2 q hq]⟩
  | .loop a, hd, p, hp => by
    simp only [drawsOkA] at hd
    simp only [blocksC] at hp ⊢
    exact blocks_draws a hd p hp
  | .skip, _, p, hp => by simp [blocksC] at hp
  | .label _, _, p, hp => by simp [blocksC] at hp
  | .region _ _ _, _, p, hp => by simp [blocksC] at hp
  | .exit _, _, p, hp => by simp [blocksC] at hp
  | .ret, _, p, hp => by simp [blocksC] at hp
  | .rangeFunc _ _ _ _, _, p, hp => by simp [blocksC] at hp
  | .scope _, _, p, hp => by simp [blocksC] at hp
  | .goto _, _, p, hp => by simp [blocksC] at hp
  | .refuse _, _, p, hp => by simp [blocksC] at hp
theorem lookC_in : ∀ {l : List (Nat × Code)} {id : Nat} {c : Code}, lookC id l = some c → (id, c) ∈ l
  | [], id, c, h => by simp [lookC] at h
  | (j, d) :: l, id, c, h => by
    simp only [lookC] at h
    split at h
    · rename_i hj; have := beq_true_eq hj; subst this; cases h; simp
    · exact List.mem_cons_of_mem _ (lookC_in h)
theorem LoopsFor.ok {g : FuncId} {n : Nat} {lp : Nat → Option LoopS} (h : LoopsFor P g n lp) {fn : Func} {c : Code} (hfn : P.funcs[g]? = some fn) (hb : fn.body = some c) (hd : distinctC (blocksC c) = true) {l : List (Nat × Code)} (hl : ∀ p ∈ l, p ∈ blocksC c) : LoopsOk P n lp l :=
  fun p hp F hF => h p.1 F hF p.2 (by simp only [blockOf, hfn, hb]; exact lookC_mem hd (hl p hp))

theorem loop_RK (ok : ProgOk P) {pr : FuncId → Option Spec} (hpr : PrOk P pr) {g : FuncId} {id n L : Nat} {lp : Nat → Option LoopS} (hdist : distinctOk P g = true) (hlp : LoopsFor P g n lp) {ks kx : List Keep} {M : Nat → List AV → St → KS → Prop}
    (step : ∀ m t s k, M m t s k → roundK P pr lp L g id t s (againK n id ks kx (fun t' s' => ∃ m', m' < m ∧ M m' t' s' k) k)) :
    ∀ m c t s k, blockOf P g id = some c → n ≤ s.length → M m t s k → RK n (fun Q => (Code.block id c).wp P Q) t s k := by
  intro m c t s k hc hn hM
  have hstep := step
  -- the body
  have hbody : ∃ d fn c0, c = .loop d ∧ P.funcs[g]? = some fn ∧ fn.body = some c0 ∧ (id, Code.loop d) ∈ blocksC c0 ∧ loopOf P g id = some d := by
    have h0 := step m t s k hM
    unfold roundK at h0
    unfold blockOf at hc
    unfold loopOf at h0 ⊢
    split at hc
    · rename_i fn hfn
      split at hc
      · rename_i c0 hb
        rw [hfn] at h0 ⊢
        simp only [hb, hc] at h0 ⊢
        cases c with
        | loop d => exact ⟨d, fn, c0, rfl, rfl, hb, lookC_in hc, rfl⟩
        | _ => exact h0.elim
      · cases hc
    · cases hc
  obtain ⟨d, fn, c0, rfl, hfn, hb, hin, hloop⟩ := hbody
  have hdist' : distinctC (blocksC c0) = true := by simpa only [distinctOk, hfn, hb] using hdist
  have hdraw := ok.draws g fn c0 hfn hb
  obtain ⟨hd1, hsub⟩ := blocks_draws c0 hdraw _ hin
  have hl : LoopsOk P n lp (blocksC d) := hlp.ok hfn hb hdist' (fun p hp => hsub p (by simpa [blocksC] using hp))
  let kk : KS := fun e t s => match e with
    | .normal => False
    | .exit j => match Nat.beq j id with
      | true => k .normal t s
      | false => k (.exit j) t s
    | .ret => k .ret t s
  have main : ∀ m t s, n ≤ s.length → M m t s k → ∃ R, RK n (fun Q => Code.rounds P d Q R) t s kk := by
    intro m
    induction m using Nat.strongRecOn with
    | _ m ih =>
      intro t s hn hM
      have h0 := step m t s k hM
      unfold roundK at h0
      rw [hloop] at h0
      simp only at h0
      obtain ⟨e, t1, s1, h1, h2, h3⟩ := codeK_sound ok (callS_ok hpr) L d hd1 hl t s _ hn h0
      cases e with
      | normal =>
        obtain ⟨t2, s2, hh, m', hm', hM'⟩ := headK_some h3
        obtain ⟨hl2, hs2⟩ := head_sound hh h1
        obtain ⟨R, hR⟩ := ih m' hm' t2 s2 hl2 hM'
        exact ⟨R + 1, RK.rounds ⟨.normal, t1, s1, h1, h2, RK.pre hl2 hs2 hR⟩⟩
      | exit j =>
        simp only [againK] at h3
        refine ⟨1, ?_⟩
        have hex : headK n kx (kk (.exit j)) t1 s1 := by
          split at h3
          · rename_i hj
            obtain ⟨t2, s2, hh, hk⟩ := headK_some h3
            unfold headK; rw [hh]; simp only [kk, hj]; exact hk
          · rename_i hj
            obtain ⟨t2, s2, hh, hk⟩ := headK_some h3
            unfold headK; rw [hh]; simp only [kk, hj]; exact hk
        obtain ⟨t2, s2, hh, hk⟩ := headK_some hex
        obtain ⟨hl2, hs2⟩ := head_sound hh h1
        refine RK.rounds (L := 0) ⟨.exit j, t2, s2, hl2, fun ρ w a Q hi htr hk' => h2 ρ w a Q hi htr fun ρ' w' a' hp ht hd => ?_, hk⟩
        obtain ⟨ρ1, hp1, ht1⟩ := hs2 ρ' w' a'.tmps hp.inv ht
        exact hk' ρ1 w' a' (hp.trans hp1) ht1 hd
      | ret =>
        obtain ⟨t2, s2, hh, hk⟩ := headK_some h3
        obtain ⟨hl2, hs2⟩ := head_sound hh h1
        refine ⟨1, RK.rounds (L := 0) ⟨.ret, t2, s2, hl2, fun ρ w a Q hi htr hk' => h2 ρ w a Q hi htr fun ρ' w' a' hp ht hd => ?_, hk⟩⟩
        obtain ⟨ρ1, hp1, ht1⟩ := hs2 ρ' w' a'.tmps hp.inv ht
        exact hk' ρ1 w' a' (hp.trans hp1) ht1 hd
  obtain ⟨R, hR⟩ := main m t s hn hM
  refine RK.block (RK.mono (RK.loop hR) fun e t' s' hk => ?_)
  cases e with
  | normal => exact hk.elim
  | exit j => exact hk
  | ret => exact hk

theorem body_calls (ok : ProgOk P) {pr : FuncId → Option Spec} (hpr : PrOk P pr) {g : FuncId} {lp : Nat → Option LoopS} {L : Nat} {ms : List Mode} {args : List AV} {s : St} {k : AV → St → Prop} (hdist : distinctOk P g = true) (hlp : LoopsFor P g s.length lp)
    (h : bodyK P pr lp L g ms args s k) : ∃ v s', s.length ≤ s'.length ∧ k v s' ∧ ∀ ρ w vargs, InvC ρ s w → Rels ρ args vargs →
      Calls P g vargs.toArray w fun e w' => ∃ u ρ', e = .returned u ∧ PostC s.length ρ s w ρ' s' w' ∧ Rel ρ' v u := by
  unfold bodyK at h
  split at h
  · exact h.elim
  · rename_i fn hfn
    split at h
    · exact h.elim
    · rename_i c hb
      have hdist' : distinctC (blocksC c) = true := by simpa only [distinctOk, hfn, hb] using hdist
      obtain ⟨e, t1, s1, h1, h2, h3⟩ := codeK_sound (n := s.length) ok (callS_ok hpr) L c (ok.draws g fn c hfn hb) (hlp.ok hfn hb hdist' (fun p hp => hp)) _ s _ (Nat.le_refl _) h
      have go : (e = .normal ∨ e = .ret) → (match resultS P s1 t1 fn.results.toList with
          | some v => match finishS s.length ms v s1 with
            | some (g, v', s'') => match g with
              | true => k v' s''
              | false => False
            | none => False
          | none => False) → ∃ v s', s.length ≤ s'.length ∧ k v s' ∧ ∀ ρ w vargs, InvC ρ s w → Rels ρ args vargs →
            Calls P g vargs.toArray w fun e w' => ∃ u ρ', e = .returned u ∧ PostC s.length ρ s w ρ' s' w' ∧ Rel ρ' v u := by
        intro he h3
        split at h3
        · rename_i v hres
          split at h3
          · rename_i gd v' s2 hfin
            split at h3
            · obtain ⟨f1, f2⟩ := finish_sound hfin h1
              refine ⟨v', s2, f1, h3, fun ρ w vargs hi hrel => ?_⟩
              have hlen := hrel.length
              refine calls_of_wp hfn hb ?_
              have htr : TR ρ (args ++ padA (fn.ntmps - args.length)) (vargs.toArray ++ Array.replicate (fn.ntmps - vargs.toArray.size) undef) := by
                have := (hrel.append (pad_rel ρ (fn.ntmps - args.length))).tr
                rw [show (vargs ++ List.replicate (fn.ntmps - args.length) undef).toArray = vargs.toArray ++ Array.replicate (fn.ntmps - vargs.toArray.size) undef by
                  rw [← hlen]; apply Array.ext'; simp] at this
                exact this
              refine h2 ρ w { tmps := vargs.toArray ++ Array.replicate (fn.ntmps - vargs.toArray.size) undef, defers := [] } _ hi htr fun ρ' w' a' hp ht hd => ?_
              obtain ⟨u, hu1, hu2⟩ := result_sound (P := P) (fn := fn) hp.inv.hr ht hres
              obtain ⟨ρ2, hp2, hv2⟩ := f2 ρ' w' u hp.inv hu2
              rcases he with rfl | rfl
              · exact ⟨hd, u, hu1, u, ρ2, rfl, hp.trans hp2, hv2⟩
              · exact ⟨hd, u, hu1, u, ρ2, rfl, hp.trans hp2, hv2⟩
            · exact h3.elim
          · exact h3.elim
        · exact h3.elim
      cases e with
      | normal => exact go (.inl rfl) h3
      | ret => exact go (.inr rfl) h3
      | exit j => exact h3.elim
/-- A function's answer, by its text. -/
theorem specOk_of (ok : ProgOk P) {pr : FuncId → Option Spec} (hpr : PrOk P pr) {g : FuncId} (hdist : distinctOk P g = true) {f : List AV → St → RT}
    (h : ∀ args s v s' tch, (f args s).run = some (v, s', tch) → ∃ lp L ms, LoopsFor P g s.length lp ∧ bodyK P pr lp L g ms args s (fun v1 s1 => v1 = v ∧ s1 = s')) : SpecOk P g f where
  len := fun args s v s' tch e => by
    obtain ⟨lp, L, ms, hlp, hb⟩ := h args s v s' tch e
    obtain ⟨v1, s1, h1, ⟨rfl, rfl⟩, _⟩ := body_calls ok hpr hdist hlp hb
    exact h1
  calls := fun args s v s' tch e => by
    obtain ⟨lp, L, ms, hlp, hb⟩ := h args s v s' tch e
    obtain ⟨v1, s1, h1, ⟨rfl, rfl⟩, h2⟩ := body_calls ok hpr hdist hlp hb
    exact h2
end
end Go.Sy
