/- Code and calls: the abstract machine is right. -/
import Derived.Test.YtekedhfmdpbplaaDenR
import Derived.LoopN
set_option linter.unusedSimpArgs false
set_option linter.unusedVariables false
namespace Go.Den
open Go

section
variable {P : Program} {call : CallA}

def Ex.to : Ex → Exit
  | .normal => .normal
  | .exit id => .exit id
  | .ret => .ret

/-- What is said of a piece of code: whatever it comes to from such slots and such a heap. -/
def Right (P : Program) (f : List AV → St → OutA) (wp : (Exit → Act → World → Prop) → Act → World → Prop) : Prop :=
  ∀ (tmps : List AV) (st : St) (e : Ex) (tmps' : List AV) (st' : St), f tmps st = some (e, tmps', st') → st.n ≤ st'.n ∧
    ∀ (ρ : Rho) (h : Hp) (w : World) (a : Act) (Q : Exit → Act → World → Prop), HR ρ h w → Agree st h → TR ρ tmps a.tmps → Fresh ρ h st st' →
      (∀ ρ' w' a', Post ρ h w st ρ' (upd st' h) w' st' → TR ρ' tmps' a'.tmps → a'.defers = a.defers → Q e.to a' w') → wp Q a w

theorem upd_upd {s1 s2 : St} {h : Hp} (hle : s1.n ≤ s2.n) : upd s2 (upd s1 h) = upd s2 h := by
  funext id
  unfold upd
  split
  · rfl
  · rw [if_neg (by omega)]

theorem Right.andThen {f g : List AV → St → OutA} {x y : Code} (hx : Right P f (fun Q => x.wp P Q)) (hy : Right P g (fun Q => y.wp P Q)) :
    Right P (fun t s => match f t s with | some (.normal, t', s') => g t' s' | r => r) (fun Q => x.wp P (Exit.then (y.wp P Q) Q)) := by
  intro tmps st e tmps' st' he
  simp only at he
  split at he
  · rename_i t1 s1 h1
    obtain ⟨n1, k1⟩ := hx _ _ _ _ _ h1
    obtain ⟨n2, k2⟩ := hy _ _ _ _ _ he
    refine ⟨Nat.le_trans n1 n2, fun ρ h w a Q hr ha htr hf hk => ?_⟩
    refine k1 ρ h w a _ hr ha htr (hf.first n1 n2) (fun ρ1 w1 a1 hp ht hd => ?_)
    refine k2 ρ1 (upd s1 h) w1 a1 Q hp.hr hp.agree ht (hf.next hp n2) (fun ρ2 w2 a2 hp2 ht2 hd2 => ?_)
    have := hp.trans hp2
    rw [upd_upd n2] at this
    exact hk ρ2 w2 a2 this ht2 (hd2.trans hd)
  · rename_i hne
    obtain ⟨n1, k1⟩ := hx _ _ _ _ _ he
    refine ⟨n1, fun ρ h w a Q hr ha htr hf hk => k1 ρ h w a _ hr ha htr hf (fun ρ' w' a' hp ht hd => ?_)⟩
    have := hk ρ' w' a' hp ht hd
    cases e with
    | normal => exact absurd he (hne _ _)
    | exit id => exact this
    | ret => exact this

theorem Right.loop {f : List AV → St → OutA} {c : Code} (hx : Right P f (fun Q => c.wp P Q)) : ∀ n, Right P (loopA f n) (fun Q => Code.rounds P c Q n)
  | 0 => fun tmps st e tmps' st' he => by simp [loopA] at he
  | n + 1 => fun tmps st e tmps' st' he => by
    have ih := Right.loop hx n
    simp only [loopA] at he
    split at he
    · rename_i t1 s1 h1
      obtain ⟨n1, k1⟩ := hx _ _ _ _ _ h1
      obtain ⟨n2, k2⟩ := ih _ _ _ _ _ he
      refine ⟨Nat.le_trans n1 n2, fun ρ h w a Q hr ha htr hf hk => ?_⟩
      show Code.rounds P c Q (n + 1) a w
      rw [rounds_succ]
      refine k1 ρ h w a _ hr ha htr (hf.first n1 n2) (fun ρ1 w1 a1 hp ht hd => ?_)
      refine k2 ρ1 (upd s1 h) w1 a1 Q hp.hr hp.agree ht (hf.next hp n2) (fun ρ2 w2 a2 hp2 ht2 hd2 => ?_)
      have := hp.trans hp2
      rw [upd_upd n2] at this
      exact hk ρ2 w2 a2 this ht2 (hd2.trans hd)
    · rename_i hne
      obtain ⟨n1, k1⟩ := hx _ _ _ _ _ he
      refine ⟨n1, fun ρ h w a Q hr ha htr hf hk => ?_⟩
      show Code.rounds P c Q (n + 1) a w
      rw [rounds_succ]
      refine k1 ρ h w a _ hr ha htr hf (fun ρ' w' a' hp ht hd => ?_)
      have := hk ρ' w' a' hp ht hd
      cases e with
      | normal => exact absurd he (hne _ _)
      | exit id => exact this
      | ret => exact this

theorem code_sound (ok : ProgOk P) (hc : CallOk P call) (L : Nat) : ∀ (c : Code), drawsOkA P c = true → Right P (codeA P call L c) (fun Q => c.wp P Q)
  | .skip, _ => fun tmps st e tmps' st' he => by
    simp only [codeA] at he; cases he
    exact ⟨Nat.le_refl _, fun ρ h w a Q hr ha htr hf hk => wp_skip (hk ρ w a (by rw [upd_self ha]; exact Post.refl hr ha) htr rfl)⟩
  | .label l, _ => fun tmps st e tmps' st' he => by
    simp only [codeA] at he; cases he
    exact ⟨Nat.le_refl _, fun ρ h w a Q hr ha htr hf hk => wp_label (hk ρ w a (by rw [upd_self ha]; exact Post.refl hr ha) htr rfl)⟩
  | .exit id, _ => fun tmps st e tmps' st' he => by
    simp only [codeA] at he; cases he
    exact ⟨Nat.le_refl _, fun ρ h w a Q hr ha htr hf hk => wp_exit (hk ρ w a (by rw [upd_self ha]; exact Post.refl hr ha) htr rfl)⟩
  | .ret, _ => fun tmps st e tmps' st' he => by
    simp only [codeA] at he; cases he
    exact ⟨Nat.le_refl _, fun ρ h w a Q hr ha htr hf hk => wp_ret (hk ρ w a (by rw [upd_self ha]; exact Post.refl hr ha) htr rfl)⟩
  | .region id ops draw, hd => fun tmps st e tmps' st' he => by
    simp only [codeA] at he
    split at he
    · rename_i t1 s1 h1
      cases he
      refine ⟨region_n hc h1, fun ρ h w a Q hr ha htr hf hk => region_sound ok hc (fun e => ?_) h1 hr ha htr hf hk⟩
      subst e
      exact hd
    · cases he
  | .seq x y, hd => fun tmps st e tmps' st' he => by
    simp only [drawsOkA, Bool.and_eq_true] at hd
    obtain ⟨n, k⟩ := Right.andThen (code_sound ok hc L x hd.1) (code_sound ok hc L y hd.2) tmps st e tmps' st' he
    exact ⟨n, fun ρ h w a Q hr ha htr hf hk => wp_seq (k ρ h w a Q hr ha htr hf hk)⟩
  | .cond c x y, hd => fun tmps st e tmps' st' he => by
    simp only [drawsOkA, Bool.and_eq_true] at hd
    simp only [codeA] at he
    split at he
    · rename_i hcv
      obtain ⟨n, k⟩ := code_sound ok hc L x hd.1 tmps st e tmps' st' he
      refine ⟨n, fun ρ h w a Q hr ha htr hf hk => wp_cond_true ?_ (k ρ h w a Q hr ha htr hf hk)⟩
      have := ev_sound htr hcv
      simpa [Rel] using this
    · rename_i hcv
      obtain ⟨n, k⟩ := code_sound ok hc L y hd.2 tmps st e tmps' st' he
      refine ⟨n, fun ρ h w a Q hr ha htr hf hk => wp_cond_false ?_ (k ρ h w a Q hr ha htr hf hk)⟩
      have := ev_sound htr hcv
      simpa [Rel] using this
    · cases he
  | .block id x, hd => fun tmps st e tmps' st' he => by
    simp only [drawsOkA] at hd
    simp only [codeA] at he
    split at he
    · rename_i j t1 s1 h1
      obtain ⟨n, k⟩ := code_sound ok hc L x hd tmps st _ _ _ h1
      split at he
      · rename_i hj
        have hj' := beq_true_eq hj
        cases he
        subst hj'
        refine ⟨n, fun ρ h w a Q hr ha htr hf hk => wp_block (k ρ h w a _ hr ha htr hf (fun ρ' w' a' hp ht hd => ?_))⟩
        show Exit.inBlock j Q (.exit j) a' w'
        simp only [Exit.inBlock, if_true]
        exact hk ρ' w' a' hp ht hd
      · rename_i hj
        have hj' := beq_false_ne hj
        cases he
        refine ⟨n, fun ρ h w a Q hr ha htr hf hk => wp_block (k ρ h w a _ hr ha htr hf (fun ρ' w' a' hp ht hd => ?_))⟩
        show Exit.inBlock id Q (.exit j) a' w'
        simp only [Exit.inBlock, if_neg hj']
        exact hk ρ' w' a' hp ht hd
    · rename_i hne
      obtain ⟨n, k⟩ := code_sound ok hc L x hd tmps st _ _ _ he
      refine ⟨n, fun ρ h w a Q hr ha htr hf hk => wp_block (k ρ h w a _ hr ha htr hf (fun ρ' w' a' hp ht hd => ?_))⟩
      have := hk ρ' w' a' hp ht hd
      cases e with
      | normal => exact this
      | exit j => exact absurd he (hne _ _ _)
      | ret => exact this
  | .loop x, hd => fun tmps st e tmps' st' he => by
    simp only [drawsOkA] at hd
    simp only [codeA] at he
    obtain ⟨n, k⟩ := Right.loop (code_sound ok hc L x hd) L tmps st e tmps' st' he
    exact ⟨n, fun ρ h w a Q hr ha htr hf hk => wp_loop_rounds L (k ρ h w a Q hr ha htr hf hk)⟩
  | .rangeFunc _ _ _ _, _ => fun tmps st e tmps' st' he => by simp [codeA] at he
  | .scope _, _ => fun tmps st e tmps' st' he => by simp [codeA] at he
  | .goto _, _ => fun tmps st e tmps' st' he => by simp [codeA] at he
  | .refuse _, _ => fun tmps st e tmps' st' he => by simp [codeA] at he

theorem pad_rel (ρ : Rho) : ∀ n, Rels ρ (padA n) (List.replicate n undef)
  | 0 => Rels.nil
  | n + 1 => Rels.cons (rel_undef ρ) (pad_rel ρ n)
theorem Rels.tr {ρ : Rho} {l : List AV} {vs : List Value} (h : Rels ρ l vs) : TR ρ l vs.toArray := by
  refine ⟨by simp [h.length], fun t => ?_⟩
  have hl := h.length
  simp only [List.getD, Array.getD_eq_getD_getElem?, List.getElem?_toArray]
  by_cases ht : t < l.length
  · obtain ⟨v, hv, hr⟩ := h.get t l[t] (List.getElem?_eq_getElem ht)
    rw [List.getElem?_eq_getElem ht, hv]
    exact hr
  · rw [List.getElem?_eq_none (by omega), List.getElem?_eq_none (by omega)]
    exact rel_undef ρ

def resF (arr : Array Value) : ResultVar → Sem Value
  | .tmp t => pure (arr.getD t undef)
  | .cell a t => do loadVar t (← asAddr (arr.getD a undef))
theorem results_eq (fn : Func) (arr : Array Value) : results fn arr = (do let vs ← fn.results.mapM (resF arr); pure (if h : vs.size = 1 then vs[0] else .tuple vs)) := by
  rfl
theorem res_sound {ρ : Rho} {h : Hp} {w : World} {st : St} {tmps : List AV} {arr : Array Value} (hr : HR ρ h w) (ha : Agree st h) (htr : TR ρ tmps arr) : ∀ (rs : List ResultVar) (l : List AV), resA P st tmps rs = some l →
    ∃ vs, Rels ρ l vs ∧ (rs.mapM (resF arr)).run P w = .ok vs w
  | [], l, e => by simp only [resA] at e; cases e; exact ⟨[], Rels.nil, rfl⟩
  | .tmp t :: rs, l, e => by
    simp only [resA] at e
    split at e
    · rename_i l' hl'
      cases e
      obtain ⟨vs, h1, h2⟩ := res_sound hr ha htr rs l' hl'
      refine ⟨arr.getD t undef :: vs, Rels.cons (htr.2 t) h1, ?_⟩
      rw [List.mapM_cons]
      simp only [Sem.run_bind, resF, Sem.run_pure, Result.andThen_ok]
      rw [h2]
      rfl
    · cases e
  | .cell a t :: rs, l, e => by
    simp only [resA] at e
    split at e
    · rename_i b off n mk hrd
      split at e
      · rename_i l0 hl0
        split at e
        · rename_i v hm
          split at e
          · rename_i l' hl'
            cases e
            obtain ⟨vs, h1, h2⟩ := res_sound hr ha htr rs l' hl'
            obtain ⟨ro, fam, cs, hb, hread⟩ := St.read_some hl0
            have hbn := St.get_lt ha hb
            obtain ⟨u, h3, h4⟩ := read_real (P := P) (a := { tmps := arr, defers := [] }) (o := { dst := none, op := .load t (.tmp a), type := 0, pos := "", after := #[], guard := none }) hr htr hrd (by rw [ha.eq b hbn]; exact hb) hread hm
            have hp : ∃ p, arr.getD a undef = .pointer (some p) := by
              simp only [readA, evA] at hrd
              split at hrd
              · rename_i b' off' hx
                have := htr.2 a
                simp only [Option.some.injEq] at hx
                rw [hx] at this
                simp only [Rel] at this
                obtain ⟨B, o, r, _, e⟩ := this
                exact ⟨_, e⟩
              · cases hrd
            obtain ⟨p, hp⟩ := hp
            have h5 : (loadVar t p).run P w = .ok u w := by
              simp only [execOp, Instr.loadAt, Act.eval, hp, Instr.sureAddr, Sem.run_bind, Sem.run_pure, Result.andThen_ok] at h3
              revert h3
              cases (loadVar t p).run P w <;> simp [Result.andThen]
            refine ⟨u :: vs, Rels.cons h4 h1, ?_⟩
            rw [List.mapM_cons]
            have h6 : (resF arr (.cell a t)).run P w = .ok u w := by simp only [resF, Sem.run_bind, hp, asAddr, Sem.run_pure, Result.andThen_ok, h5]
            rw [Sem.run_bind, h6]
            simp only [Result.andThen_ok, Sem.run_bind, h2, Sem.run_pure]
          · cases e
        · cases e
      · cases e
    · cases e
theorem result_sound {ρ : Rho} {h : Hp} {w : World} {st : St} {tmps : List AV} {arr : Array Value} {fn : Func} {v : AV} (hr : HR ρ h w) (ha : Agree st h) (htr : TR ρ tmps arr) (e : resultA P st tmps fn.results.toList = some v) :
    ∃ u, (results fn arr).run P w = .ok u w ∧ Rel ρ v u := by
  unfold resultA at e
  have key : ∀ vs, (fn.results.toList.mapM (resF arr)).run P w = .ok vs w → (results fn arr).run P w = .ok (if h : vs.toArray.size = 1 then vs.toArray[0] else .tuple vs.toArray) w := by
    intro vs h2
    rw [results_eq, Array.mapM_eq_mapM_toList]
    simp only [Sem.run_bind, Sem.run_map, h2, Result.andThen_ok]
    rfl
  split at e
  · rename_i x hx
    cases e
    obtain ⟨vs, h1, h2⟩ := res_sound (P := P) hr ha htr _ _ hx
    have h3 := key _ h2
    simp only [Rels] at h1
    obtain ⟨u, us, rfl, h4, rfl⟩ := h1
    exact ⟨u, by rw [h3]; rfl, h4⟩
  · rename_i l hne hx
    cases e
    obtain ⟨vs, h1, h2⟩ := res_sound (P := P) hr ha htr _ _ hx
    have h3 := key _ h2
    have hl := h1.length
    have hne1 : ¬ vs.toArray.size = 1 := fun e1 => by
      simp at e1
      have : l.length = 1 := by omega
      obtain ⟨x, rfl⟩ := List.length_eq_one_iff.1 this
      exact hne x rfl
    exact ⟨.tuple vs.toArray, by rw [h3, dif_neg hne1], by simp only [Rel]; exact ⟨vs, rfl, h1⟩⟩
  · cases e

/-- Functions whose answer is told without their text. -/
structure PrimOk (P : Program) (pr : FuncId → Option (List AV → St → Option (AV × St))) : Prop where
  mono : ∀ g f args st v st', pr g = some f → f args st = some (v, st') → st.n ≤ st'.n
  calls : ∀ g f args st v st', pr g = some f → f args st = some (v, st') → ∀ (ρ : Rho) (h : Hp) (w : World) (vargs : List Value), HR ρ h w → Agree st h → Fresh ρ h st st' → Rels ρ args vargs →
    Calls P g vargs.toArray w (Answers P ρ h w st v st')

theorem call_sound (ok : ProgOk P) {pr : FuncId → Option (List AV → St → Option (AV × St))} (hpr : PrimOk P pr) (L : Nat) : ∀ n, CallOk P (callA P pr L n)
  | 0 => ⟨fun g args st v st' e => by simp [callA] at e, fun g args st v st' e => by simp [callA] at e⟩
  | n + 1 => by
    have ih := call_sound ok hpr L n
    have key : ∀ g args st v st', callA P pr L (n + 1) g args st = some (v, st') → st.n ≤ st'.n ∧ ∀ (ρ : Rho) (h : Hp) (w : World) (vargs : List Value), HR ρ h w → Agree st h → Fresh ρ h st st' → Rels ρ args vargs →
        Calls P g vargs.toArray w (Answers P ρ h w st v st') := by
      intro g args st v st' e
      simp only [callA] at e
      split at e
      · rename_i f hf
        exact ⟨hpr.mono _ _ _ _ _ _ hf e, hpr.calls _ _ _ _ _ _ hf e⟩
      · split at e
        · cases e
        · rename_i fn hfn
          split at e
          · cases e
          · rename_i c hbody
            have hR := code_sound ok ih L c (ok.draws g fn c hfn hbody)
            have go : ∀ (ex : Ex) (t : List AV) (s : St), (ex = .normal ∨ ex = .ret) → codeA P (callA P pr L n) L c (args ++ padA (fn.ntmps - args.length)) st = some (ex, t, s) → resultA P s t fn.results.toList = some v → s = st' →
                st.n ≤ st'.n ∧ ∀ (ρ : Rho) (h : Hp) (w : World) (vargs : List Value), HR ρ h w → Agree st h → Fresh ρ h st st' → Rels ρ args vargs → Calls P g vargs.toArray w (Answers P ρ h w st v st') := by
              intro ex t s hex hcode hres hs
              subst hs
              obtain ⟨n1, k1⟩ := hR _ _ _ _ _ hcode
              refine ⟨n1, fun ρ h w vargs hr ha hf hrel => ?_⟩
              have hlen := hrel.length
              refine calls_of_wp hfn hbody ?_
              have htr : TR ρ (args ++ padA (fn.ntmps - args.length)) (vargs.toArray ++ Array.replicate (fn.ntmps - vargs.toArray.size) undef) := by
                have := (hrel.append (pad_rel ρ (fn.ntmps - args.length))).tr
                rw [show (vargs ++ List.replicate (fn.ntmps - args.length) undef).toArray = vargs.toArray ++ Array.replicate (fn.ntmps - vargs.toArray.size) undef by
                  rw [← hlen]; apply Array.ext'; simp] at this
                exact this
              refine k1 ρ h w { tmps := vargs.toArray ++ Array.replicate (fn.ntmps - vargs.toArray.size) undef, defers := [] } _ hr ha htr hf (fun ρ' w' a' hp ht hd => ?_)
              obtain ⟨u, hu1, hu2⟩ := result_sound (P := P) (fn := fn) hp.hr hp.agree ht hres
              rcases hex with rfl | rfl
              · exact ⟨hd, u, hu1, u, ρ', rfl, hp, hu2⟩
              · exact ⟨hd, u, hu1, u, ρ', rfl, hp, hu2⟩
            split at e
            · rename_i t s hcode
              split at e
              · rename_i v0 hres
                cases e
                exact go .normal t _ (.inl rfl) hcode hres rfl
              · cases e
            · rename_i t s hcode
              split at e
              · rename_i v0 hres
                cases e
                exact go .ret t _ (.inr rfl) hcode hres rfl
              · cases e
            · cases e
    exact ⟨fun g args st v st' e => (key g args st v st' e).1, fun g args st v st' e => (key g args st v st' e).2⟩

theorem noPrim_ok : PrimOk P noPrim := ⟨fun g f args st v st' e => (by cases e), fun g f args st v st' e => (by cases e)⟩

/-- From nothing. -/
theorem empty_HR (w : World) : HR (fun _ => none) (fun _ => none) w :=
  ⟨fun _ _ _ _ _ _ _ e => (by cases e), fun _ _ _ _ _ _ _ _ _ _ _ _ _ _ e => (by cases e), fun _ _ _ _ _ _ e => (by cases e), fun _ e => absurd rfl e⟩
theorem empty_Agree : Agree empty (fun _ => none) :=
  ⟨fun id h => (by simp [empty] at h), fun id _ => (by simp [empty, St.get, Tr.get]), fun i ro rt b cs e => (by simp [empty, St.get, Tr.get] at e), fun rt ms e => (by simp [empty, St.get, Tr.get] at e)⟩
theorem Post.below {ρ ρ' : Rho} {h h' : Hp} {w w' : World} {st st' : St} (hp : Post ρ h w st ρ' h' w' st') (hfree : ∀ B, B < w.heap.size → Free ρ h B) : Go.RowKit.Below w.heap.size w w' :=
  ⟨hp.os, hp.tape, hp.output, hp.size, fun k hk => (hp.frame k hk (hfree k hk)).1⟩
/-- **A call without arguments that the abstract machine says true of.** -/
theorem says_true (ok : ProgOk P) {pr : FuncId → Option (List AV → St → Option (AV × St))} (hpr : PrimOk P pr) {L n : Nat} {g : FuncId} (h : saysTrue P pr L n g = true) (w : World) :
    Calls P g #[] w fun e w' => e = .returned (.bool true) ∧ Go.RowKit.Below w.heap.size w w' := by
  unfold saysTrue at h
  split at h
  · rename_i b st' hcall
    subst h
    have hc := (call_sound ok hpr L n).calls g [] empty _ _ hcall (fun _ => none) (fun _ => none) w [] (empty_HR w) empty_Agree ⟨fun _ _ _ => rfl, fun _ _ e => absurd rfl e⟩ Rels.nil
    refine hc.mono ?_
    rintro e w' ⟨u, ρ', rfl, hp, hv⟩
    simp only [Rel] at hv
    subst hv
    exact ⟨rfl, hp.below (fun B _ id o r e => by cases e)⟩
  · cases h
end

end Go.Den
