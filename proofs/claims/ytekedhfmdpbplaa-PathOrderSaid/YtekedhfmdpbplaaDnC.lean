/- The abstract machine. -/
import Derived.Test.YtekedhfmdpbplaaDnB
import Derived.LoopN
import Derived.Laws.Externs
import Derived.KernelRfl
set_option linter.unusedSimpArgs false
set_option linter.unusedVariables false
/- Code and calls: the abstract machine is right. -/
namespace Go.Den
open Go

section
variable {P : Program} {call : CallA}

def Ex.to : Ex → Exit
  | .normal => .normal
  | .exit id => .exit id
  | .ret => .ret

/-- What is said of a piece of code: whatever it comes to from such slots and such a heap. -/
def Right (P : Program) (f : List AV → St → OutA) (wp : (Exit → Act → World → Prop) → Act → World → Prop) : Prop :=
  ∀ (tmps : List AV) (st : St) (e : Ex) (tmps' : List AV) (st' : St), f tmps st = some (e, tmps', st') → st.n ≤ st'.n ∧
    ∀ (ρ : Rho) (h : Hp) (w : World) (a : Act) (Q : Exit → Act → World → Prop), HR ρ h w → Agree st h → TR ρ tmps a.tmps → Fresh ρ h st st' →
      (∀ ρ' w' a', Post ρ h w st ρ' (upd st' h) w' st' → TR ρ' tmps' a'.tmps → a'.defers = a.defers → Q e.to a' w') → wp Q a w

theorem upd_upd {s1 s2 : St} {h : Hp} (hle : s1.n ≤ s2.n) : upd s2 (upd s1 h) = upd s2 h := by
  funext id
  unfold upd
  split
  · rfl
  · rw [if_neg (by omega)]

theorem Right.andThen {f g : List AV → St → OutA} {x y : Code} (hx : Right P f (fun Q => x.wp P Q)) (hy : Right P g (fun Q => y.wp P Q)) :
    Right P (fun t s => match f t s with | some (.normal, t', s') => g t' s' | r => r) (fun Q => x.wp P (Exit.then (y.wp P Q) Q)) := by
  intro tmps st e tmps' st' he
  simp only at he
  split at he
  · rename_i t1 s1 h1
    obtain ⟨n1, k1⟩ := hx _ _ _ _ _ h1
    obtain ⟨n2, k2⟩ := hy _ _ _ _ _ he
    refine ⟨Nat.le_trans n1 n2, fun ρ h w a Q hr ha htr hf hk => ?_⟩
    refine k1 ρ h w a _ hr ha htr (hf.first n1 n2) (fun ρ1 w1 a1 hp ht hd => ?_)
    refine k2 ρ1 (upd s1 h) w1 a1 Q hp.hr hp.agree ht (hf.next hp n2) (fun ρ2 w2 a2 hp2 ht2 hd2 => ?_)
    have := hp.trans hp2
    rw [upd_upd n2] at this
    exact hk ρ2 w2 a2 this ht2 (hd2.trans hd)
  · rename_i hne
    obtain ⟨n1, k1⟩ := hx _ _ _ _ _ he
    refine ⟨n1, fun ρ h w a Q hr ha htr hf hk => k1 ρ h w a _ hr ha htr hf (fun ρ' w' a' hp ht hd => ?_)⟩
    have := hk ρ' w' a' hp ht hd
    cases e with
    | normal => exact absurd he (hne _ _)
    | exit id => exact this
    | ret => exact this

theorem Right.loop {f : List AV → St → OutA} {c : Code} (hx : Right P f (fun Q => c.wp P Q)) : ∀ n, Right P (loopA f n) (fun Q => Code.rounds P c Q n)
  | 0 => fun tmps st e tmps' st' he => by simp [loopA] at he
  | n + 1 => fun tmps st e tmps' st' he => by
    have ih := Right.loop hx n
    simp only [loopA] at he
    split at he
    · rename_i t1 s1 h1
      obtain ⟨n1, k1⟩ := hx _ _ _ _ _ h1
      obtain ⟨n2, k2⟩ := ih _ _ _ _ _ he
      refine ⟨Nat.le_trans n1 n2, fun ρ h w a Q hr ha htr hf hk => ?_⟩
      show Code.rounds P c Q (n + 1) a w
      rw [rounds_succ]
      refine k1 ρ h w a _ hr ha htr (hf.first n1 n2) (fun ρ1 w1 a1 hp ht hd => ?_)
      refine k2 ρ1 (upd s1 h) w1 a1 Q hp.hr hp.agree ht (hf.next hp n2) (fun ρ2 w2 a2 hp2 ht2 hd2 => ?_)
      have := hp.trans hp2
      rw [upd_upd n2] at this
      exact hk ρ2 w2 a2 this ht2 (hd2.trans hd)
    · rename_i hne
      obtain ⟨n1, k1⟩ := hx _ _ _ _ _ he
      refine ⟨n1, fun ρ h w a Q hr ha htr hf hk => ?_⟩
      show Code.rounds P c Q (n + 1) a w
      rw [rounds_succ]
      refine k1 ρ h w a _ hr ha htr hf (fun ρ' w' a' hp ht hd => ?_)
      have := hk ρ' w' a' hp ht hd
      cases e with
      | normal => exact absurd he (hne _ _)
      | exit id => exact this
      | ret => exact this

theorem code_sound (ok : ProgOk P) (hc : CallOk P call) (L : Nat) : ∀ (c : Code), drawsOkA P c = true → Right P (codeA P call L c) (fun Q => c.wp P Q)
  | .skip, _ => fun tmps st e tmps' st' he => by
    simp only [codeA] at he; cases he
    exact ⟨Nat.le_refl _, fun ρ h w a Q hr ha htr hf hk => wp_skip (hk ρ w a (by rw [upd_self ha]; exact Post.refl hr ha) htr rfl)⟩
  | .label l, _ => fun tmps st e tmps' st' he => by
    simp only [codeA] at he; cases he
    exact ⟨Nat.le_refl _, fun ρ h w a Q hr ha htr hf hk => wp_label (hk ρ w a (by rw [upd_self ha]; exact Post.refl hr ha) htr rfl)⟩
  | .exit id, _ => fun tmps st e tmps' st' he => by
    simp only [codeA] at he; cases he
    exact ⟨Nat.le_refl _, fun ρ h w a Q hr ha htr hf hk => wp_exit (hk ρ w a (by rw [upd_self ha]; exact Post.refl hr ha) htr rfl)⟩
  | .ret, _ => fun tmps st e tmps' st' he => by
    simp only [codeA] at he; cases he
    exact ⟨Nat.le_refl _, fun ρ h w a Q hr ha htr hf hk => wp_ret (hk ρ w a (by rw [upd_self ha]; exact Post.refl hr ha) htr rfl)⟩
  | .region id ops draw, hd => fun tmps st e tmps' st' he => by
    simp only [codeA] at he
    split at he
    · rename_i t1 s1 h1
      cases he
      refine ⟨region_n hc h1, fun ρ h w a Q hr ha htr hf hk => region_sound ok hc (fun e => ?_) h1 hr ha htr hf hk⟩
      subst e
      exact hd
    · cases he
  | .seq x y, hd => fun tmps st e tmps' st' he => by
    simp only [drawsOkA, Bool.and_eq_true] at hd
    obtain ⟨n, k⟩ := Right.andThen (code_sound ok hc L x hd.1) (code_sound ok hc L y hd.2) tmps st e tmps' st' he
    exact ⟨n, fun ρ h w a Q hr ha htr hf hk => wp_seq (k ρ h w a Q hr ha htr hf hk)⟩
  | .cond c x y, hd => fun tmps st e tmps' st' he => by
    simp only [drawsOkA, Bool.and_eq_true] at hd
    simp only [codeA] at he
    split at he
    · rename_i hcv
      obtain ⟨n, k⟩ := code_sound ok hc L x hd.1 tmps st e tmps' st' he
      refine ⟨n, fun ρ h w a Q hr ha htr hf hk => wp_cond_true ?_ (k ρ h w a Q hr ha htr hf hk)⟩
      have := ev_sound htr hcv
      simpa [Rel] using this
    · rename_i hcv
      obtain ⟨n, k⟩ := code_sound ok hc L y hd.2 tmps st e tmps' st' he
      refine ⟨n, fun ρ h w a Q hr ha htr hf hk => wp_cond_false ?_ (k ρ h w a Q hr ha htr hf hk)⟩
      have := ev_sound htr hcv
      simpa [Rel] using this
    · cases he
  | .block id x, hd => fun tmps st e tmps' st' he => by
    simp only [drawsOkA] at hd
    simp only [codeA] at he
    split at he
    · rename_i j t1 s1 h1
      obtain ⟨n, k⟩ := code_sound ok hc L x hd tmps st _ _ _ h1
      split at he
      · rename_i hj
        have hj' := beq_true_eq hj
        cases he
        subst hj'
        refine ⟨n, fun ρ h w a Q hr ha htr hf hk => wp_block (k ρ h w a _ hr ha htr hf (fun ρ' w' a' hp ht hd => ?_))⟩
        show Exit.inBlock j Q (.exit j) a' w'
        simp only [Exit.inBlock, if_true]
        exact hk ρ' w' a' hp ht hd
      · rename_i hj
        have hj' := beq_false_ne hj
        cases he
        refine ⟨n, fun ρ h w a Q hr ha htr hf hk => wp_block (k ρ h w a _ hr ha htr hf (fun ρ' w' a' hp ht hd => ?_))⟩
        show Exit.inBlock id Q (.exit j) a' w'
        simp only [Exit.inBlock, if_neg hj']
        exact hk ρ' w' a' hp ht hd
    · rename_i hne
      obtain ⟨n, k⟩ := code_sound ok hc L x hd tmps st _ _ _ he
      refine ⟨n, fun ρ h w a Q hr ha htr hf hk => wp_block (k ρ h w a _ hr ha htr hf (fun ρ' w' a' hp ht hd => ?_))⟩
      have := hk ρ' w' a' hp ht hd
      cases e with
      | normal => exact this
      | exit j => exact absurd he (hne _ _ _)
      | ret => exact this
  | .loop x, hd => fun tmps st e tmps' st' he => by
    simp only [drawsOkA] at hd
    simp only [codeA] at he
    obtain ⟨n, k⟩ := Right.loop (code_sound ok hc L x hd) L tmps st e tmps' st' he
    exact ⟨n, fun ρ h w a Q hr ha htr hf hk => wp_loop_rounds L (k ρ h w a Q hr ha htr hf hk)⟩
  | .rangeFunc _ _ _ _, _ => fun tmps st e tmps' st' he => by simp [codeA] at he
  | .scope _, _ => fun tmps st e tmps' st' he => by simp [codeA] at he
  | .goto _, _ => fun tmps st e tmps' st' he => by simp [codeA] at he
  | .refuse _, _ => fun tmps st e tmps' st' he => by simp [codeA] at he

theorem pad_rel (ρ : Rho) : ∀ n, Rels ρ (padA n) (List.replicate n undef)
  | 0 => Rels.nil
  | n + 1 => Rels.cons (rel_undef ρ) (pad_rel ρ n)
theorem Rels.tr {ρ : Rho} {l : List AV} {vs : List Value} (h : Rels ρ l vs) : TR ρ l vs.toArray := by
  refine ⟨by simp [h.length], fun t => ?_⟩
  have hl := h.length
  simp only [List.getD, Array.getD_eq_getD_getElem?, List.getElem?_toArray]
  by_cases ht : t < l.length
  · obtain ⟨v, hv, hr⟩ := h.get t l[t] (List.getElem?_eq_getElem ht)
    rw [List.getElem?_eq_getElem ht, hv]
    exact hr
  · rw [List.getElem?_eq_none (by omega), List.getElem?_eq_none (by omega)]
    exact rel_undef ρ

def resF (arr : Array Value) : ResultVar → Sem Value
  | .tmp t => pure (arr.getD t undef)
  | .cell a t => do loadVar t (← asAddr (arr.getD a undef))
theorem results_eq (fn : Func) (arr : Array Value) : results fn arr = (do let vs ← fn.results.mapM (resF arr); pure (if h : vs.size = 1 then vs[0] else .tuple vs)) := by
  rfl
theorem res_sound {ρ : Rho} {h : Hp} {w : World} {st : St} {tmps : List AV} {arr : Array Value} (hr : HR ρ h w) (ha : Agree st h) (htr : TR ρ tmps arr) : ∀ (rs : List ResultVar) (l : List AV), resA P st tmps rs = some l →
    ∃ vs, Rels ρ l vs ∧ (rs.mapM (resF arr)).run P w = .ok vs w
  | [], l, e => by simp only [resA] at e; cases e; exact ⟨[], Rels.nil, rfl⟩
  | .tmp t :: rs, l, e => by
    simp only [resA] at e
    split at e
    · rename_i l' hl'
      cases e
      obtain ⟨vs, h1, h2⟩ := res_sound hr ha htr rs l' hl'
      refine ⟨arr.getD t undef :: vs, Rels.cons (htr.2 t) h1, ?_⟩
      rw [List.mapM_cons]
      simp only [Sem.run_bind, resF, Sem.run_pure, Result.andThen_ok]
      rw [h2]
      rfl
    · cases e
  | .cell a t :: rs, l, e => by
    simp only [resA] at e
    split at e
    · rename_i b off n mk hrd
      split at e
      · rename_i l0 hl0
        split at e
        · rename_i v hm
          split at e
          · rename_i l' hl'
            cases e
            obtain ⟨vs, h1, h2⟩ := res_sound hr ha htr rs l' hl'
            obtain ⟨ro, fam, cs, hb, hread⟩ := St.read_some hl0
            have hbn := St.get_lt ha hb
            obtain ⟨u, h3, h4⟩ := read_real (P := P) (a := { tmps := arr, defers := [] }) (o := { dst := none, op := .load t (.tmp a), type := 0, pos := "", after := #[], guard := none }) hr htr hrd (by rw [ha.eq b hbn]; exact hb) hread hm
            have hp : ∃ p, arr.getD a undef = .pointer (some p) := by
              simp only [readA, evA] at hrd
              split at hrd
              · rename_i b' off' hx
                have := htr.2 a
                simp only [Option.some.injEq] at hx
                rw [hx] at this
                simp only [Rel] at this
                obtain ⟨B, o, r, _, e⟩ := this
                exact ⟨_, e⟩
              · cases hrd
            obtain ⟨p, hp⟩ := hp
            have h5 : (loadVar t p).run P w = .ok u w := by
              simp only [execOp, Instr.loadAt, Act.eval, hp, Instr.sureAddr, Sem.run_bind, Sem.run_pure, Result.andThen_ok] at h3
              revert h3
              cases (loadVar t p).run P w <;> simp [Result.andThen]
            refine ⟨u :: vs, Rels.cons h4 h1, ?_⟩
            rw [List.mapM_cons]
            have h6 : (resF arr (.cell a t)).run P w = .ok u w := by simp only [resF, Sem.run_bind, hp, asAddr, Sem.run_pure, Result.andThen_ok, h5]
            rw [Sem.run_bind, h6]
            simp only [Result.andThen_ok, Sem.run_bind, h2, Sem.run_pure]
          · cases e
        · cases e
      · cases e
    · cases e
theorem result_sound {ρ : Rho} {h : Hp} {w : World} {st : St} {tmps : List AV} {arr : Array Value} {fn : Func} {v : AV} (hr : HR ρ h w) (ha : Agree st h) (htr : TR ρ tmps arr) (e : resultA P st tmps fn.results.toList = some v) :
    ∃ u, (results fn arr).run P w = .ok u w ∧ Rel ρ v u := by
  unfold resultA at e
  have key : ∀ vs, (fn.results.toList.mapM (resF arr)).run P w = .ok vs w → (results fn arr).run P w = .ok (if h : vs.toArray.size = 1 then vs.toArray[0] else .tuple vs.toArray) w := by
    intro vs h2
    rw [results_eq, Array.mapM_eq_mapM_toList]
    simp only [Sem.run_bind, Sem.run_map, h2, Result.andThen_ok]
    rfl
  split at e
  · rename_i x hx
    cases e
    obtain ⟨vs, h1, h2⟩ := res_sound (P := P) hr ha htr _ _ hx
    have h3 := key _ h2
    simp only [Rels] at h1
    obtain ⟨u, us, rfl, h4, rfl⟩ := h1
    exact ⟨u, by rw [h3]; rfl, h4⟩
  · rename_i l hne hx
    cases e
    obtain ⟨vs, h1, h2⟩ := res_sound (P := P) hr ha htr _ _ hx
    have h3 := key _ h2
    have hl := h1.length
    have hne1 : ¬ vs.toArray.size = 1 := fun e1 => by
      simp at e1
      have : l.length = 1 := by omega
      obtain ⟨x, rfl⟩ := List.length_eq_one_iff.1 this
      exact hne x rfl
    exact ⟨.tuple vs.toArray, by rw [h3, dif_neg hne1], by simp only [Rel]; exact ⟨vs, rfl, h1⟩⟩
  · cases e

/-- Functions whose answer is told without their text. -/
structure PrimOk (P : Program) (pr : FuncId → Option (List AV → St → Option (AV × St))) : Prop where
  mono : ∀ g f args st v st', pr g = some f → f args st = some (v, st') → st.n ≤ st'.n
  calls : ∀ g f args st v st', pr g = some f → f args st = some (v, st') → ∀ (ρ : Rho) (h : Hp) (w : World) (vargs : List Value), HR ρ h w → Agree st h → Fresh ρ h st st' → Rels ρ args vargs →
    Calls P g vargs.toArray w (Answers P ρ h w st v st')

theorem call_sound (ok : ProgOk P) {pr : FuncId → Option (List AV → St → Option (AV × St))} (hpr : PrimOk P pr) (L : Nat) : ∀ n, CallOk P (callA P pr L n)
  | 0 => ⟨fun g args st v st' e => by simp [callA] at e, fun g args st v st' e => by simp [callA] at e⟩
  | n + 1 => by
    have ih := call_sound ok hpr L n
    have key : ∀ g args st v st', callA P pr L (n + 1) g args st = some (v, st') → st.n ≤ st'.n ∧ ∀ (ρ : Rho) (h : Hp) (w : World) (vargs : List Value), HR ρ h w → Agree st h → Fresh ρ h st st' → Rels ρ args vargs →
        Calls P g vargs.toArray w (Answers P ρ h w st v st') := by
      intro g args st v st' e
      simp only [callA] at e
      split at e
      · rename_i f hf
        exact ⟨hpr.mono _ _ _ _ _ _ hf e, hpr.calls _ _ _ _ _ _ hf e⟩
      · split at e
        · cases e
        · rename_i fn hfn
          split at e
          · cases e
          · rename_i c hbody
            have hR := code_sound ok ih L c (ok.draws g fn c hfn hbody)
            have go : ∀ (ex : Ex) (t : List AV) (s : St), (ex = .normal ∨ ex = .ret) → codeA P (callA P pr L n) L c (args ++ padA (fn.ntmps - args.length)) st = some (ex, t, s) → resultA P s t fn.results.toList = some v → s = st' →
                st.n ≤ st'.n ∧ ∀ (ρ : Rho) (h : Hp) (w : World) (vargs : List Value), HR ρ h w → Agree st h → Fresh ρ h st st' → Rels ρ args vargs → Calls P g vargs.toArray w (Answers P ρ h w st v st') := by
              intro ex t s hex hcode hres hs
              subst hs
              obtain ⟨n1, k1⟩ := hR _ _ _ _ _ hcode
              refine ⟨n1, fun ρ h w vargs hr ha hf hrel => ?_⟩
              have hlen := hrel.length
              refine calls_of_wp hfn hbody ?_
              have htr : TR ρ (args ++ padA (fn.ntmps - args.length)) (vargs.toArray ++ Array.replicate (fn.ntmps - vargs.toArray.size) undef) := by
                have := (hrel.append (pad_rel ρ (fn.ntmps - args.length))).tr
                rw [show (vargs ++ List.replicate (fn.ntmps - args.length) undef).toArray = vargs.toArray ++ Array.replicate (fn.ntmps - vargs.toArray.size) undef by
                  rw [← hlen]; apply Array.ext'; simp] at this
                exact this
              refine k1 ρ h w { tmps := vargs.toArray ++ Array.replicate (fn.ntmps - vargs.toArray.size) undef, defers := [] } _ hr ha htr hf (fun ρ' w' a' hp ht hd => ?_)
              obtain ⟨u, hu1, hu2⟩ := result_sound (P := P) (fn := fn) hp.hr hp.agree ht hres
              rcases hex with rfl | rfl
              · exact ⟨hd, u, hu1, u, ρ', rfl, hp, hu2⟩
              · exact ⟨hd, u, hu1, u, ρ', rfl, hp, hu2⟩
            split at e
            · rename_i t s hcode
              split at e
              · rename_i v0 hres
                cases e
                exact go .normal t _ (.inl rfl) hcode hres rfl
              · cases e
            · rename_i t s hcode
              split at e
              · rename_i v0 hres
                cases e
                exact go .ret t _ (.inr rfl) hcode hres rfl
              · cases e
            · cases e
    exact ⟨fun g args st v st' e => (key g args st v st' e).1, fun g args st v st' e => (key g args st v st' e).2⟩

theorem noPrim_ok : PrimOk P noPrim := ⟨fun g f args st v st' e => (by cases e), fun g f args st v st' e => (by cases e)⟩

/-- From nothing. -/
theorem empty_HR (w : World) : HR (fun _ => none) (fun _ => none) w :=
  ⟨fun _ _ _ _ _ _ _ e => (by cases e), fun _ _ _ _ _ _ _ _ _ _ _ _ _ _ e => (by cases e), fun _ _ _ _ _ _ e => (by cases e), fun _ e => absurd rfl e⟩
theorem empty_Agree : Agree empty (fun _ => none) :=
  ⟨fun id h => (by simp [empty] at h), fun id _ => (by simp [empty, St.get, Tr.get]), fun i ro rt b cs e => (by simp [empty, St.get, Tr.get] at e), fun rt ms e => (by simp [empty, St.get, Tr.get] at e)⟩
theorem Post.below {ρ ρ' : Rho} {h h' : Hp} {w w' : World} {st st' : St} (hp : Post ρ h w st ρ' h' w' st') (hfree : ∀ B, B < w.heap.size → Free ρ h B) : Go.RowKit.Below w.heap.size w w' :=
  ⟨hp.os, hp.tape, hp.output, hp.size, fun k hk => (hp.frame k hk (hfree k hk)).1⟩
/-- **A call without arguments that the abstract machine says true of.** -/
theorem says_true (ok : ProgOk P) {pr : FuncId → Option (List AV → St → Option (AV × St))} (hpr : PrimOk P pr) {L n : Nat} {g : FuncId} (h : saysTrue P pr L n g = true) (w : World) :
    Calls P g #[] w fun e w' => e = .returned (.bool true) ∧ Go.RowKit.Below w.heap.size w w' := by
  unfold saysTrue at h
  split at h
  · rename_i b st' hcall
    subst h
    have hc := (call_sound ok hpr L n).calls g [] empty _ _ hcall (fun _ => none) (fun _ => none) w [] (empty_HR w) empty_Agree ⟨fun _ _ _ => rfl, fun _ _ e => absurd rfl e⟩ Rels.nil
    refine hc.mono ?_
    rintro e w' ⟨u, ρ', rfl, hp, hv⟩
    simp only [Rel] at hv
    subst hv
    exact ⟨rfl, hp.below (fun B _ id o r e => by cases e)⟩
  · cases h
end

end Go.Den

/- What is asked of a program, as closed facts. -/
namespace Go.Den
open Go

def namesOkA (P : Program) : Bool := P.funcs.toList.all fun fn => fn.body.isNone || !(fn.name == "runtime.NumGoroutine")
def drawsAllA (P : Program) : Bool := P.funcs.toList.all fun fn => match fn.body with | some c => drawsOkA P c | none => true
def extsOkA (P : Program) : Bool := P.funcs.toList.all fun fn => fn.body.isSome || !(fn.name == "math/bits.Add64" || fn.name == "math/bits.Sub64") || (fn.origin == "")

theorem next_add : Extern.allNextRows.lookup "math/bits.Add64" = none := by kernel_rfl
theorem next_sub : Extern.allNextRows.lookup "math/bits.Sub64" = none := by kernel_rfl
theorem next_nil : Extern.allNextRows.lookup "" = none := by kernel_rfl
theorem gen_add : Extern.allGenericRows.lookup "math/bits.Add64" = none := by kernel_rfl
theorem gen_sub : Extern.allGenericRows.lookup "math/bits.Sub64" = none := by kernel_rfl
theorem typ_add : Extern.allTypedRows.lookup "math/bits.Add64" = none := by kernel_rfl
theorem typ_sub : Extern.allTypedRows.lookup "math/bits.Sub64" = none := by kernel_rfl
def addRow : Array Value → Sem Value := fun args => do
  let (x, y, c) ← Extern.MathBitsCarry.three "Add64" args
  pure (Extern.MathBitsCarry.pair ((x + y + c) % Extern.MathBitsCarry.m64) ((x + y + c) / Extern.MathBitsCarry.m64))
def subRow : Array Value → Sem Value := fun args => do
  let (x, y, b) ← Extern.MathBitsCarry.three "Sub64" args
  pure (Extern.MathBitsCarry.pair ((x + Extern.MathBitsCarry.m64 - y - b) % Extern.MathBitsCarry.m64) (if x < y + b then 1 else 0))
theorem row_add : Extern.allRows.lookup "math/bits.Add64" = some addRow := by kernel_rfl
theorem row_sub : Extern.allRows.lookup "math/bits.Sub64" = some subRow := by kernel_rfl

theorem run_addRow {P : Program} (x y c : Int) (hc : c = 0 ∨ c = 1) (w : World) : (addRow #[.int .u64 x, .int .u64 y, .int .u64 c]).run P w =
    .ok (.tuple #[.int .u64 (((x.toNat + y.toNat + c.toNat) % 18446744073709551616 : Nat) : Int), .int .u64 (((x.toNat + y.toNat + c.toNat) / 18446744073709551616 : Nat) : Int)]) w := by
  rcases hc with rfl | rfl <;> rfl
theorem run_subRow {P : Program} (x y c : Int) (hc : c = 0 ∨ c = 1) (w : World) : (subRow #[.int .u64 x, .int .u64 y, .int .u64 c]).run P w =
    .ok (Extern.MathBitsCarry.pair ((x.toNat + 18446744073709551616 - y.toNat - c.toNat) % 18446744073709551616) (if x.toNat < y.toNat + c.toNat then 1 else 0)) w := by
  rcases hc with rfl | rfl <;> rfl
theorem name_ne (fn : Func) (h : fn.name = "math/bits.Add64" ∨ fn.name = "math/bits.Sub64") : (fn.name == "runtime.NumGoroutine") = false := by
  rcases h with h | h <;> rw [h] <;> decide

theorem progOk_of {P : Program} (h1 : P.follows .mixedOrders = true) (h2 : namesOkA P = true) (h3 : drawsAllA P = true) (h4 : extsOkA P = true) : ProgOk P where
  orders := h1
  names := fun g fn hfn hb => by
    have := List.all_eq_true.1 h2 fn (by rw [Array.mem_toList_iff]; exact Array.mem_of_getElem? hfn)
    cases hbd : fn.body with
    | none => exact absurd hbd hb
    | some c =>
      rw [hbd] at this
      simpa using this
  draws := fun g fn c hfn hb => by
    have := List.all_eq_true.1 h3 fn (by rw [Array.mem_toList_iff]; exact Array.mem_of_getElem? hfn)
    rw [hb] at this
    exact this
  ext := fun g fn ρ args vargs v hfn hb he hrel w => by
    have horig := List.all_eq_true.1 h4 fn (by rw [Array.mem_toList_iff]; exact Array.mem_of_getElem? hfn)
    rw [hb] at horig
    unfold externA at he
    split at he
    · rename_i x y c
      simp only [Rels, Rel] at hrel
      obtain ⟨_, _, rfl, rfl, _, _, rfl, rfl, _, _, rfl, rfl, rfl⟩ := hrel
      split at he
      · cases he
      · rename_i hc
        simp only [Bool.and_eq_true, decide_eq_true_eq] at hc
        have hcn : ¬ c.toNat > 1 := by omega
        split at he
        · rename_i hn
          cases he
          have hn' : fn.name = "math/bits.Add64" := by simpa using hn
          have ho : fn.origin = "" := by
            rw [hn'] at horig
            simpa using horig
          have f1 : Extern.findNext fn = none := by simp [Extern.findNext, hn', ho, next_add, next_nil]
          have f2 : Extern.find fn = some addRow := by simp [Extern.find, hn', gen_add, typ_add, row_add]
          rw [run_callFunc_extern hfn (name_ne fn (.inl hn')) (by rw [hb]; rfl) f1 f2, run_addRow x y c (by omega)]
          exact ⟨_, rfl, by simp only [Rel]; exact ⟨_, rfl, Rels.cons (by simp [Rel]) (Rels.cons (by simp [Rel]) Rels.nil)⟩⟩
        · split at he
          · rename_i hn
            cases he
            have hn' : fn.name = "math/bits.Sub64" := by simpa using hn
            have ho : fn.origin = "" := by
              rw [hn'] at horig
              simpa using horig
            have f1 : Extern.findNext fn = none := by simp [Extern.findNext, hn', ho, next_sub, next_nil]
            have f2 : Extern.find fn = some subRow := by simp [Extern.find, hn', gen_sub, typ_sub, row_sub]
            rw [run_callFunc_extern hfn (name_ne fn (.inr hn')) (by rw [hb]; rfl) f1 f2, run_subRow x y c (by omega)]
            refine ⟨_, rfl, ?_⟩
            simp only [Rel, Extern.MathBitsCarry.pair]
            refine ⟨_, rfl, Rels.cons (by simp [Rel]) (Rels.cons ?_ Rels.nil)⟩
            simp only [Rel, Value.int.injEq, true_and]
            split <;> rfl
          · cases he
    · cases he
end Go.Den

/- Calls with arguments of which this or that is known; functions that are known to come to true. -/
namespace Go.Den
open Go

section
variable {P : Program}

def nowhere : Rho := fun _ => none

theorem HR.frame {ρ : Rho} {h : Hp} {w w' : World} (hr : HR ρ h w) (hb : Go.RowKit.Below w.heap.size w w') : HR ρ h w' where
  cell := fun id B o r ro fam cs e1 e2 => by
    have := hr.cell id B o r ro fam cs e1 e2
    exact rel_of_le (fun _ _ e => e) this hb.size (hb.block B this.lt)
  apart := hr.apart
  fam := hr.fam
  ent := hr.ent

/-- Functions without arguments that are known to come to true. -/
def truePrim (gs : List FuncId) : FuncId → Option (List AV → St → Option (AV × St)) := fun g =>
  match gs.contains g with
  | true => some fun args st => match args with
    | [] => some (.bool true, st)
    | _ => none
  | false => none
theorem truePrim_of (ok : ProgOk P) {gs : List FuncId} (h : ∀ g ∈ gs, ∀ w, Calls P g (#[] : Array Value) w fun e w' => e = .returned (.bool true) ∧ Go.RowKit.Below w.heap.size w w') : PrimOk P (truePrim gs) where
  mono := fun g f args st v st' e1 e2 => by
    unfold truePrim at e1
    split at e1
    · cases e1
      simp only at e2
      split at e2
      · cases e2; exact Nat.le_refl _
      · cases e2
    · cases e1
  calls := fun g f args st v st' e1 e2 ρ hp w vargs hr ha hf hrel => by
    unfold truePrim at e1
    split at e1
    · rename_i hg
      cases e1
      simp only at e2
      split at e2
      · cases e2
        simp only [Rels] at hrel
        subst hrel
        refine (h g (by simpa using hg) w).mono ?_
        rintro e w' ⟨rfl, hb⟩
        refine ⟨.bool true, ρ, rfl, ?_, by simp [Rel]⟩
        rw [upd_self ha]
        exact ⟨fun _ _ e => e, fun id e => absurd rfl e, (upd_self ha).symm, hr.frame hb, ha, Nat.le_refl _, hb.os, hb.tape, hb.output, hb.size, fun B hB hf => ⟨hb.block B hB, hf⟩, fun _ _ _ _ => rfl⟩
      · cases e2
    · cases e1

theorem truePrim_ok (ok : ProgOk P) {gs : List FuncId} (h : ∀ g ∈ gs, ∃ pr L n, PrimOk P pr ∧ saysTrue P pr L n g = true) : PrimOk P (truePrim gs) :=
  truePrim_of ok fun g hg w => by
    obtain ⟨pr, L, n, hpr, hs⟩ := h g hg
    exact says_true ok hpr hs w

def saysArgs (P : Program) (pr : FuncId → Option (List AV → St → Option (AV × St))) (L n : Nat) (g : FuncId) (args : List AV) : Bool :=
  match callA P pr L n g args empty with
  | some (.bool b, _) => b
  | _ => false
theorem says_args (ok : ProgOk P) {pr : FuncId → Option (List AV → St → Option (AV × St))} (hpr : PrimOk P pr) {L n : Nat} {g : FuncId} {args : List AV} {vargs : List Value} (h : saysArgs P pr L n g args = true) (hrel : Rels nowhere args vargs) (w : World) :
    Calls P g vargs.toArray w fun e w' => e = .returned (.bool true) ∧ Go.RowKit.Below w.heap.size w w' := by
  unfold saysArgs at h
  split at h
  · rename_i b st' hcall
    subst h
    have hc := (call_sound ok hpr L n).calls g args empty _ _ hcall nowhere (fun _ => none) w vargs (empty_HR w) empty_Agree ⟨fun _ _ _ => rfl, fun _ _ e => absurd rfl e⟩ hrel
    refine hc.mono ?_
    rintro e w' ⟨u, ρ', rfl, hp, hv⟩
    simp only [Rel] at hv
    subst hv
    exact ⟨rfl, hp.below (fun B _ id o r e => by cases e)⟩
  · cases h

/- ### Cases -/
def Covers (l : List AV) (v : Value) : Prop := ∃ a ∈ l, Rel nowhere a v
def allA : List (List AV) → (List AV → Bool) → Bool
  | [], f => f []
  | l :: ls, f => l.all fun a => allA ls fun as => f (a :: as)
def CoverAll : List (List AV) → List Value → Prop
  | [], vs => vs = []
  | l :: ls, vs => ∃ v us, vs = v :: us ∧ Covers l v ∧ CoverAll ls us
theorem allA_leaf {f : List AV → Bool} (h : f [] = true) : allA [] f = true := h
theorem allA_nil {ls : List (List AV)} {f : List AV → Bool} : allA ([] :: ls) f = true := rfl
theorem allA_cons {a : AV} {l : List AV} {ls : List (List AV)} {f : List AV → Bool} (h : allA ls (fun as => f (a :: as)) = true) (k : allA (l :: ls) f = true) : allA ((a :: l) :: ls) f = true := by
  simp only [allA, List.all_cons, Bool.and_eq_true] at k ⊢
  exact ⟨h, k⟩
theorem allA_some : ∀ {ls : List (List AV)} {vs : List Value} {f : List AV → Bool}, allA ls f = true → CoverAll ls vs → ∃ args, Rels nowhere args vs ∧ f args = true
  | [], vs, f, h, hc => by
    simp only [CoverAll] at hc; subst hc
    exact ⟨[], Rels.nil, h⟩
  | l :: ls, vs, f, h, hc => by
    simp only [CoverAll] at hc
    obtain ⟨v, us, rfl, ⟨a, ha, hr⟩, hc'⟩ := hc
    simp only [allA] at h
    have h1 := List.all_eq_true.1 h a ha
    obtain ⟨args, h2, h3⟩ := allA_some (f := fun as => f (a :: as)) h1 hc'
    exact ⟨a :: args, Rels.cons hr h2, h3⟩
theorem says_cases (ok : ProgOk P) {pr : FuncId → Option (List AV → St → Option (AV × St))} (hpr : PrimOk P pr) {L n : Nat} {g : FuncId} {ls : List (List AV)} {vargs : List Value} (h : allA ls (saysArgs P pr L n g) = true) (hc : CoverAll ls vargs) (w : World) :
    Calls P g vargs.toArray w fun e w' => e = .returned (.bool true) ∧ Go.RowKit.Below w.heap.size w w' := by
  obtain ⟨args, h1, h2⟩ := allA_some h hc
  exact says_args ok hpr h2 h1 w

def bools : List AV := [.bool false, .bool true]
theorem bools_cov (b : Bool) : Covers bools (.bool b) := ⟨.bool b, by cases b <;> simp [bools], by simp [Rel]⟩

/-- What is known of a number that is less than all of lo, .., lo + n - 1; that is greater. -/
def lessF : Nat → Int → List (List (BinOp × Int) × FV)
  | 0, _ => []
  | n + 1, c => ([(.lss, c)], .b true) :: ([(.leq, c)], .b true) :: ([(.gtr, c)], .b false) :: ([(.geq, c)], .b false) :: ([(.eql, c)], .b false) :: ([(.neq, c)], .b true) :: lessF n (c + 1)
def moreF : Nat → Int → List (List (BinOp × Int) × FV)
  | 0, _ => []
  | n + 1, c => ([(.lss, c)], .b false) :: ([(.leq, c)], .b false) :: ([(.gtr, c)], .b true) :: ([(.geq, c)], .b true) :: ([(.eql, c)], .b false) :: ([(.neq, c)], .b true) :: moreF n (c + 1)
theorem lessF_ok {k : IntKind} {m : Int} : ∀ {n : Nat} {lo : Int}, m < lo → ∀ x ∈ lessF n lo, chainA k m x.1 = some (x.2.av k)
  | 0, lo, h, x, hx => by simp [lessF] at hx
  | n + 1, lo, h, x, hx => by
    simp only [lessF, List.mem_cons] at hx
    rcases hx with rfl | rfl | rfl | rfl | rfl | rfl | hx
    · simp [chainA, intOp, FV.av, h]
    · simp [chainA, intOp, FV.av]; omega
    · simp [chainA, intOp, FV.av]; omega
    · simp [chainA, intOp, FV.av]; omega
    · simp [chainA, intOp, FV.av]; omega
    · simp [chainA, intOp, FV.av]; omega
    · exact lessF_ok (by omega) x hx
theorem moreF_ok {k : IntKind} {m : Int} : ∀ {n : Nat} {lo : Int}, lo + n ≤ m → ∀ x ∈ moreF n lo, chainA k m x.1 = some (x.2.av k)
  | 0, lo, h, x, hx => by simp [moreF] at hx
  | n + 1, lo, h, x, hx => by
    simp only [moreF, List.mem_cons] at hx
    rcases hx with rfl | rfl | rfl | rfl | rfl | rfl | hx
    · simp [chainA, intOp, FV.av]; omega
    · simp [chainA, intOp, FV.av]; omega
    · simp [chainA, intOp, FV.av]; omega
    · simp [chainA, intOp, FV.av]; omega
    · simp [chainA, intOp, FV.av]; omega
    · simp [chainA, intOp, FV.av]; omega
    · exact moreF_ok (by omega) x hx
/-- Of each number from lo to lo + n - 1 itself; of others that they are less, or greater. -/
def countA (k : IntKind) : Nat → Int → List AV
  | 0, _ => []
  | n + 1, c => .int k c :: countA k n (c + 1)
def rangeA (k : IntKind) (lo : Int) (n : Nat) : List AV := .fact k (lessF n lo) :: .fact k (moreF n lo) :: countA k n lo
theorem countA_mem {k : IntKind} : ∀ {n : Nat} {lo m : Int}, lo ≤ m → m < lo + n → .int k m ∈ countA k n lo
  | 0, lo, m, h1, h2 => by omega
  | n + 1, lo, m, h1, h2 => by
    simp only [countA, List.mem_cons]
    by_cases e : m = lo
    · left; rw [e]
    · right; exact countA_mem (by omega) (by omega)
theorem rangeA_cov (k : IntKind) (lo : Int) (n : Nat) (m : Int) : Covers (rangeA k lo n) (.int k m) := by
  by_cases h1 : m < lo
  · exact ⟨.fact k (lessF n lo), by simp [rangeA], by simp only [Rel]; exact ⟨m, rfl, lessF_ok h1⟩⟩
  · by_cases h2 : m < lo + n
    · exact ⟨.int k m, by simp only [rangeA, List.mem_cons]; right; right; exact countA_mem (by omega) h2, by simp [Rel]⟩
    · exact ⟨.fact k (moreF n lo), by simp [rangeA], by simp only [Rel]; exact ⟨m, rfl, moreF_ok (by omega)⟩⟩
end
end Go.Den

/- The abstract machine once more, in a form that the kernel reckons faster: slots in a tree, one look at an operation's kind. What it comes to is what the abstract machine comes to. -/
namespace Go.Den
open Go

/- ### Slots in a tree -/
inductive T where
  | leaf
  | node (l : T) (v : AV) (r : T)

def pathF : Nat → Nat → List Bool
  | 0, _ => []
  | f + 1, i => match Nat.beq i 0 with
    | true => []
    | false => match Nat.beq (i % 2) 1 with
      | true => true :: pathF f (i / 2)
      | false => false :: pathF f (i / 2 - 1)
def path (i : Nat) : List Bool := pathF i i
def unpath : List Bool → Nat
  | [] => 0
  | true :: p => 2 * unpath p + 1
  | false :: p => 2 * unpath p + 2
theorem unpath_pathF : ∀ (f i : Nat), i ≤ f → unpath (pathF f i) = i
  | 0, i, h => by simp [pathF, unpath]; omega
  | f + 1, i, h => by
    simp only [pathF]
    split
    · rename_i e; have := Nat.eq_of_beq_eq_true e; simp [unpath, this]
    · rename_i e
      have e' := Nat.ne_of_beq_eq_false e
      split
      · rename_i e1
        have := Nat.eq_of_beq_eq_true e1
        simp only [unpath]
        rw [unpath_pathF f (i / 2) (by omega)]
        omega
      · rename_i e1
        have := Nat.ne_of_beq_eq_false e1
        simp only [unpath]
        rw [unpath_pathF f (i / 2 - 1) (by omega)]
        omega
theorem path_inj {i j : Nat} (h : path i = path j) : i = j := by
  have h1 := unpath_pathF i i (Nat.le_refl _)
  have h2 := unpath_pathF j j (Nat.le_refl _)
  unfold path at h
  rw [← h1, ← h2, h]

noncomputable def T.get (t : T) : List Bool → AV :=
  T.rec (motive := fun _ => List Bool → AV) (fun _ => undefA) (fun _ v _ gl gr p => List.rec (motive := fun _ => AV) v (fun b q _ => Bool.rec (motive := fun _ => AV) (gr q) (gl q) b) p) t
noncomputable def T.one (v : AV) (p : List Bool) : T :=
  List.rec (motive := fun _ => T) (.node .leaf v .leaf) (fun b _ m => Bool.rec (motive := fun _ => T) (.node .leaf undefA m) (.node m undefA .leaf) b) p
noncomputable def T.set (v : AV) (t : T) : List Bool → T :=
  T.rec (motive := fun _ => List Bool → T) (fun p => T.one v p) (fun l u r sl sr p => List.rec (motive := fun _ => T) (.node l v r) (fun b q _ => Bool.rec (motive := fun _ => T) (.node l u (sr q)) (.node (sl q) u r) b) p) t
theorem T.get_leaf (p : List Bool) : T.leaf.get p = undefA := rfl
theorem T.get_nil (l r : T) (v : AV) : (T.node l v r).get [] = v := rfl
theorem T.get_true (l r : T) (v : AV) (p : List Bool) : (T.node l v r).get (true :: p) = l.get p := rfl
theorem T.get_false (l r : T) (v : AV) (p : List Bool) : (T.node l v r).get (false :: p) = r.get p := rfl
theorem T.get_one (v : AV) : ∀ (p q : List Bool), (T.one v p).get q = if p = q then v else undefA
  | [], [] => rfl
  | [], true :: q => rfl
  | [], false :: q => rfl
  | true :: p, [] => rfl
  | false :: p, [] => rfl
  | true :: p, true :: q => by
    show (T.one v p).get q = _
    rw [T.get_one v p q]
    simp
  | false :: p, false :: q => by
    show (T.one v p).get q = _
    rw [T.get_one v p q]
    simp
  | true :: p, false :: q => rfl
  | false :: p, true :: q => rfl
theorem T.get_set (v : AV) : ∀ (t : T) (p q : List Bool), (t.set v p).get q = if p = q then v else t.get q
  | .leaf, p, q => by
    show (T.one v p).get q = _
    rw [T.get_one]
    rfl
  | .node l u r, [], [] => rfl
  | .node l u r, [], true :: q => rfl
  | .node l u r, [], false :: q => rfl
  | .node l u r, true :: p, [] => rfl
  | .node l u r, false :: p, [] => rfl
  | .node l u r, true :: p, true :: q => by
    show (l.set v p).get q = _
    rw [T.get_set v l p q]
    simp [T.get_true]
  | .node l u r, false :: p, false :: q => by
    show (r.set v p).get q = _
    rw [T.get_set v r p q]
    simp [T.get_false]
  | .node l u r, true :: p, false :: q => rfl
  | .node l u r, false :: p, true :: q => rfl

/-- The tree holds these slots. -/
def Rt (t : T) (l : List AV) : Prop := ∀ i, t.get (path i) = l.getD i undefA
theorem Rt.set {t : T} {l : List AV} (h : Rt t l) {i : Nat} (hi : i < l.length) (v : AV) : Rt (t.set v (path i)) (l.set i v) := fun j => by
  rw [T.get_set]
  by_cases e : i = j
  · subst e
    rw [if_pos rfl]
    simp [List.getD, hi]
  · rw [if_neg (fun h => e (path_inj h)), h j]
    simp [List.getD, List.getElem?_set_ne e]
noncomputable def T.ofL (l : List AV) : Nat → T → T :=
  List.rec (motive := fun _ => Nat → T → T) (fun _ t => t) (fun a _ ih i t => ih (Nat.add i 1) (t.set a (path i))) l
theorem T.get_ofL : ∀ (l : List AV) (i : Nat) (t : T) (j : Nat), (T.ofL l i t).get (path j) = if i ≤ j ∧ j < i + l.length then l.getD (j - i) undefA else t.get (path j)
  | [], i, t, j => by
    show t.get (path j) = _
    rw [if_neg (fun h => by have := h.2; simp only [List.length_nil] at this; omega)]
  | a :: l, i, t, j => by
    show (T.ofL l (i + 1) (t.set a (path i))).get (path j) = _
    rw [T.get_ofL l (i + 1) _ j, T.get_set]
    by_cases e : i = j
    · subst e
      rw [if_neg (by omega), if_pos rfl, if_pos ⟨Nat.le_refl _, by simp⟩]
      simp
    · rw [if_neg (fun h => e (path_inj h))]
      by_cases h1 : i + 1 ≤ j ∧ j < i + 1 + l.length
      · rw [if_pos h1, if_pos (by simp; omega)]
        obtain ⟨k, rfl⟩ : ∃ k, j = i + 1 + k := ⟨j - (i + 1), by omega⟩
        rw [show i + 1 + k - i = k + 1 by omega, show i + 1 + k - (i + 1) = k by omega]
        simp
      · rw [if_neg h1, if_neg (by simp; omega)]
theorem padA_getD : ∀ (n j : Nat), (padA n).getD j undefA = undefA
  | 0, j => by simp [padA]
  | n + 1, 0 => by simp [padA]
  | n + 1, j + 1 => by simpa [padA] using padA_getD n j
theorem Rt.start (args : List AV) (n : Nat) : Rt (T.ofL args 0 .leaf) (args ++ padA n) := fun j => by
  rw [T.get_ofL]
  by_cases h : j < args.length
  · rw [if_pos (by omega)]
    simp [List.getD, List.getElem?_append_left h]
  · rw [if_neg (by omega), T.get_leaf]
    have := padA_getD n (j - args.length)
    simp only [List.getD] at this ⊢
    rw [List.getElem?_append_right (by omega), this]

/- ### Operands -/
noncomputable def evF (t : T) : Operand → Option AV
  | .tmp i => some (t.get (path i))
  | .const v => ofVal v
  | .global g => some (.glob g)
  | .func f => some (.fn (.func f) [] [])
end Go.Den

/- The faster form: operations, regions, code, calls; it comes to what the abstract machine comes to. -/
namespace Go.Den
open Go

theorem evF_eq {t : T} {l : List AV} (h : Rt t l) : evF t = evA l := by
  funext x
  cases x <;> simp [evF, evA, h _]

section
variable (ev : Operand → Option AV)
def consE (x : Option AV) (r : Option (List AV)) : Option (List AV) :=
  match x with
  | none => none
  | some v => match r with
    | none => none
    | some l => some (v :: l)
def consPE (i : Nat) (x : Option AV) (r : Option (List (Nat × AV))) : Option (List (Nat × AV)) :=
  match x with
  | none => none
  | some v => match r with
    | none => none
    | some l => some ((i, v) :: l)
noncomputable def evsE (l : List Operand) : Option (List AV) :=
  List.rec (motive := fun _ => Option (List AV)) (some []) (fun x _ ih => consE (ev x) ih) l
def evOptE : Option Operand → Option (Option AV)
  | none => some none
  | some x => match ev x with
    | none => none
    | some v => some (some v)
noncomputable def evPartsE (l : List (Nat × Operand)) : Option (List (Nat × AV)) :=
  List.rec (motive := fun _ => Option (List (Nat × AV))) (some []) (fun p _ ih => Prod.rec (motive := fun _ => Option (List (Nat × AV))) (fun i x => consPE i (ev x) ih) p) l
end
theorem evsE_eq (t : List AV) : ∀ l, evsE (evA t) l = evsA t l
  | [] => rfl
  | x :: xs => by
    show consE (evA t x) (evsE (evA t) xs) = _
    simp only [consE, evsA, evsE_eq t xs]; rfl
theorem evOptE_eq (t : List AV) : ∀ l, evOptE (evA t) l = evOptA t l
  | none => rfl
  | some x => rfl
theorem evPartsE_eq (t : List AV) : ∀ l, evPartsE (evA t) l = evPartsA t l
  | [] => rfl
  | (i, x) :: xs => by
    show consPE i (evA t x) (evPartsE (evA t) xs) = _
    simp only [consPE, evPartsA, evPartsE_eq t xs]; rfl

/- ### Numbers -/
def sameK (k k' : IntKind) : Bool := Nat.beq k.ctorIdx k'.ctorIdx
theorem sameK_eq (k k' : IntKind) : sameK k k' = decide (k = k') := by cases k <;> cases k' <;> rfl
def wrap64 (k : IntKind) (n : Int) : Int :=
  match n with
  | .ofNat a => match Nat.blt a 9223372036854775808 with
    | true => .ofNat a
    | false => k.wrap n
  | .negSucc a => match Nat.blt a 9223372036854775808 with
    | true => .negSucc a
    | false => k.wrap n
def wrapF (k : IntKind) (n : Int) : Int :=
  match k with
  | .i64 => wrap64 .i64 n
  | k => k.wrap n
theorem wrap64_in (n : Int) (h1 : -9223372036854775808 ≤ n) (h2 : n < 9223372036854775808) : IntKind.i64.wrap n = n := by
  show (if true && decide (n % (2 ^ 64 : Int) ≥ (2 ^ 63 : Int)) then n % (2 ^ 64 : Int) - (2 ^ 64 : Int) else n % (2 ^ 64 : Int)) = n
  simp only [Bool.true_and, decide_eq_true_eq]
  split <;> omega
theorem wrap64_eq (n : Int) : wrap64 .i64 n = IntKind.i64.wrap n := by
  unfold wrap64
  split
  · split
    · rename_i a _ h
      have := Nat.le_of_ble_eq_true h
      exact (wrap64_in _ (by simp only [Int.ofNat_eq_natCast]; omega) (by simp only [Int.ofNat_eq_natCast]; omega)).symm
    · rfl
  · split
    · rename_i a _ h
      have := Nat.le_of_ble_eq_true h
      exact (wrap64_in _ (by omega) (by omega)).symm
    · rfl
theorem wrapF_eq (k : IntKind) (n : Int) : wrapF k n = k.wrap n := by
  cases k <;> first | exact wrap64_eq n | rfl
def addF (n m : Int) : Int :=
  match n with
  | .ofNat a => match m with
    | .ofNat b => .ofNat (Nat.add a b)
    | .negSucc _ => Int.add n m
  | .negSucc _ => Int.add n m
theorem addF_eq (n m : Int) : addF n m = n + m := by cases n <;> cases m <;> rfl
def subF (n m : Int) : Int :=
  match n with
  | .ofNat a => match m with
    | .ofNat b => match Nat.ble b a with
      | true => .ofNat (Nat.sub a b)
      | false => Int.sub n m
    | .negSucc _ => Int.sub n m
  | .negSucc _ => Int.sub n m
theorem subF_eq (n m : Int) : subF n m = n - m := by
  cases n with
  | negSucc a => rfl
  | ofNat a => cases m with
    | negSucc b => rfl
    | ofNat b =>
      simp only [subF]
      split
      · rename_i h
        have := Nat.le_of_ble_eq_true h
        show Int.ofNat (a - b) = _
        simp only [Int.ofNat_eq_natCast]
        omega
      · rfl
def ltF (n m : Int) : Bool :=
  match n with
  | .ofNat a => match m with
    | .ofNat b => Nat.blt a b
    | .negSucc _ => false
  | .negSucc a => match m with
    | .ofNat _ => true
    | .negSucc b => Nat.blt b a
theorem ltF_eq (n m : Int) : ltF n m = decide (n < m) := by
  cases n with
  | ofNat a => cases m with
    | ofNat b =>
      simp only [ltF, Int.ofNat_eq_natCast]
      rw [Bool.eq_iff_iff]
      simp [Nat.blt_eq]
    | negSucc b =>
      simp only [ltF]
      symm
      simp only [decide_eq_false_iff_not, Int.ofNat_eq_natCast]
      omega
  | negSucc a => cases m with
    | ofNat b =>
      simp only [ltF]
      symm
      simp only [decide_eq_true_eq, Int.ofNat_eq_natCast]
      omega
    | negSucc b =>
      simp only [ltF]
      rw [Bool.eq_iff_iff]
      simp only [Nat.blt_eq, decide_eq_true_eq]
      omega
def eqF (n m : Int) : Bool :=
  match n with
  | .ofNat a => match m with
    | .ofNat b => Nat.beq a b
    | .negSucc _ => false
  | .negSucc a => match m with
    | .ofNat _ => false
    | .negSucc b => Nat.beq a b
theorem eqF_eq (n m : Int) : eqF n m = (n == m) := by
  cases n <;> cases m <;> simp only [eqF] <;> rw [Bool.eq_iff_iff] <;> simp [Nat.beq_eq] <;> omega

def int2 (P : Program) (op : BinOp) (t : TypeId) (k : IntKind) (n : Int) (k' : IntKind) (m : Int) : Option AV :=
  match op with
  | .add => match sameK k k' with | true => some (.int k (wrapF k (addF n m))) | false => none
  | .sub => match sameK k k' with | true => some (.int k (wrapF k (subF n m))) | false => none
  | .eql => match sameK k k' with | true => some (.bool (eqF n m)) | false => none
  | .neq => match sameK k k' with | true => some (.bool (!eqF n m)) | false => none
  | .lss => match sameK k k' with | true => some (.bool (ltF n m)) | false => none
  | .leq => match sameK k k' with | true => some (.bool (!ltF m n)) | false => none
  | .gtr => match sameK k k' with | true => some (.bool (ltF m n)) | false => none
  | .geq => match sameK k k' with | true => some (.bool (!ltF n m)) | false => none
  | op => binA P op t (.int k n) (.int k' m)
theorem int2_eq (P : Program) (op : BinOp) (t : TypeId) (k : IntKind) (n : Int) (k' : IntKind) (m : Int) : int2 P op t k n k' m = binA P op t (.int k n) (.int k' m) := by
  have h1 : decide (n ≤ m) = !decide (m < n) := by rw [Bool.eq_iff_iff]; simp
  have h2 : decide (n ≥ m) = !decide (n < m) := by rw [Bool.eq_iff_iff]; simp
  cases op <;> first | rfl | (simp only [int2, binA, sameK_eq, intOp, wrapF_eq, addF_eq, subF_eq, ltF_eq, eqF_eq, bne, h1, h2] <;> rfl)
def bin2 (P : Program) (op : BinOp) (t : TypeId) (a b : AV) : Option AV :=
  match a with
  | .int k n => match b with
    | .int k' m => int2 P op t k n k' m
    | b => binA P op t (.int k n) b
  | a => binA P op t a b
theorem bin2_eq (P : Program) (op : BinOp) (t : TypeId) (a b : AV) : bin2 P op t a b = binA P op t a b := by
  cases a <;> first | rfl | (cases b <;> first | rfl | exact int2_eq ..)
def bin1 (P : Program) (op : BinOp) (t : TypeId) (x y : Option AV) : Option AV :=
  match x with
  | none => none
  | some a => match y with
    | none => none
    | some b => bin2 P op t a b
def inB (i : Int) (len : Nat) : Bool :=
  match i with
  | .ofNat a => Nat.blt a len
  | .negSucc _ => false
theorem inB_eq (i : Int) (len : Nat) : inB i len = (decide (0 ≤ i) && decide (i < (len : Int))) := by
  cases i with
  | ofNat a =>
    simp only [inB, Int.ofNat_eq_natCast]
    rw [Bool.eq_iff_iff]
    simp only [Nat.blt_eq, Bool.and_eq_true, decide_eq_true_eq]
    omega
  | negSucc a =>
    simp only [inB]
    symm
    rw [Bool.and_eq_false_iff]
    left
    simp only [decide_eq_false_iff_not]
    omega
def idxA2 (P : Program) (t : TypeId) (a i : AV) : Option AV :=
  match i with
  | .int k n => match a with
    | .sl (some (b, off)) len c => match P.underlying t with
      | some (.slice e) => match sizeA P e with
        | some sz => match inB n len with
          | true => some (.ptr (some (b, off + n.toNat * sz)))
          | false => none
        | none => none
      | _ => none
    | a => indexAddrA P t a (.int k n)
  | _ => none
theorem idxA2_eq (P : Program) (t : TypeId) (a i : AV) : idxA2 P t a i = indexAddrA P t a i := by
  cases i <;> try rfl
  rename_i k n
  cases a <;> try rfl
  rename_i p len c
  rcases p with _ | ⟨b, off⟩
  · rfl
  · simp only [idxA2, indexAddrA]
    cases P.underlying t with
    | none => rfl
    | some d =>
      cases d <;> simp only
      · rename_i e
        cases sizeA P e with
        | none => rfl
        | some sz => simp only [inB_eq]; rfl

/- ### Memory -/
noncomputable def Tr.getP {α : Type} (t : Tr α) : List Bool → Option α :=
  Tr.rec (motive := fun _ => List Bool → Option α) (fun _ => none) (fun _ v _ gl gr p => List.rec (motive := fun _ => Option α) v (fun b q _ => Bool.rec (motive := fun _ => Option α) (gr q) (gl q) b) p) t
theorem getP_pathF {α : Type} : ∀ (t : Tr α) (f i : Nat), i ≤ f → t.getP (pathF f i) = t.get i
  | .leaf, f, i, _ => by rw [Tr.get_leaf]; rfl
  | .node l v r, 0, i, h => by
    obtain rfl : i = 0 := by omega
    simp only [Tr.get]
    rfl
  | .node l v r, f + 1, i, h => by
    simp only [Tr.get, pathF]
    cases h0 : Nat.beq i 0 with
    | true => rfl
    | false =>
      have := Nat.ne_of_beq_eq_false h0
      simp only
      cases h1 : Nat.beq (i % 2) 1 with
      | true => exact getP_pathF l f (i / 2) (by omega)
      | false =>
        have := Nat.ne_of_beq_eq_false h1
        exact getP_pathF r f (i / 2 - 1) (by omega)
theorem getP_eq {α : Type} (t : Tr α) (i : Nat) : t.getP (path i) = t.get i := getP_pathF t i i (Nat.le_refl _)
noncomputable def Tr.oneP {α : Type} (a : α) (p : List Bool) : Tr α :=
  List.rec (motive := fun _ => Tr α) (.node .leaf (some a) .leaf) (fun b _ m => Bool.rec (motive := fun _ => Tr α) (.node .leaf none m) (.node m none .leaf) b) p
noncomputable def Tr.setP {α : Type} (a : α) (t : Tr α) : List Bool → Tr α :=
  Tr.rec (motive := fun _ => List Bool → Tr α) (fun p => Tr.oneP a p) (fun l u r sl sr p => List.rec (motive := fun _ => Tr α) (.node l (some a) r) (fun b q _ => Bool.rec (motive := fun _ => Tr α) (.node l u (sr q)) (.node (sl q) u r) b) p) t
theorem oneP_pathF {α : Type} (a : α) : ∀ (f i : Nat), i ≤ f → Tr.oneP a (pathF f i) = Tr.setF (f + 1) .leaf i a
  | 0, i, h => by
    obtain rfl : i = 0 := by omega
    rfl
  | f + 1, i, h => by
    rw [Tr.setF.eq_def]
    simp only [pathF]
    cases h0 : Nat.beq i 0 with
    | true => rfl
    | false =>
      have := Nat.ne_of_beq_eq_false h0
      simp only
      cases h1 : Nat.beq (i % 2) 1 with
      | true =>
        simp only
        rw [← oneP_pathF a f (i / 2) (by omega)]
        rfl
      | false =>
        have := Nat.ne_of_beq_eq_false h1
        simp only
        rw [← oneP_pathF a f (i / 2 - 1) (by omega)]
        rfl
theorem setP_pathF {α : Type} (a : α) : ∀ (t : Tr α) (f i : Nat), i ≤ f → t.setP a (pathF f i) = Tr.setF (f + 1) t i a
  | .leaf, f, i, h => oneP_pathF a f i h
  | .node l v r, 0, i, h => by
    obtain rfl : i = 0 := by omega
    rfl
  | .node l v r, f + 1, i, h => by
    rw [Tr.setF.eq_def]
    simp only [pathF]
    cases h0 : Nat.beq i 0 with
    | true => rfl
    | false =>
      have := Nat.ne_of_beq_eq_false h0
      simp only
      cases h1 : Nat.beq (i % 2) 1 with
      | true =>
        simp only
        rw [← setP_pathF a l f (i / 2) (by omega)]
        rfl
      | false =>
        have := Nat.ne_of_beq_eq_false h1
        simp only
        rw [← setP_pathF a r f (i / 2 - 1) (by omega)]
        rfl
theorem setP_eq {α : Type} (t : Tr α) (i : Nat) (a : α) : t.setP a (path i) = t.set i a := setP_pathF a t i i (Nat.le_refl _)

def consO (a : AV) : Option (List AV) → Option (List AV)
  | some l => some (a :: l)
  | none => none
noncomputable def takeX (l : List AV) : Nat → Option (List AV) :=
  List.rec (motive := fun _ => Nat → Option (List AV)) (fun n => Nat.rec (motive := fun _ => Option (List AV)) (some []) (fun _ _ => none) n)
    (fun a _ ih n => Nat.rec (motive := fun _ => Option (List AV)) (some []) (fun m _ => consO a (ih m)) n) l
theorem takeX_eq : ∀ (l : List AV) (n : Nat), takeX l n = if n ≤ l.length then some (l.take n) else none
  | [], 0 => rfl
  | [], n + 1 => by
    show none = _
    rw [if_neg (by simp)]
  | a :: l, 0 => rfl
  | a :: l, n + 1 => by
    show consO a (takeX l n) = _
    rw [takeX_eq l n]
    by_cases h : n ≤ l.length
    · rw [if_pos h, if_pos (by simp; omega)]; rfl
    · rw [if_neg h, if_neg (by simp; omega)]; rfl
noncomputable def readX (l : List AV) : Nat → Nat → Option (List AV) :=
  List.rec (motive := fun _ => Nat → Nat → Option (List AV)) (fun off n => Nat.rec (motive := fun _ => Option (List AV)) (some []) (fun _ _ => none) (Nat.add off n))
    (fun a l ih off n => Nat.rec (motive := fun _ => Option (List AV)) (takeX (a :: l) n) (fun m _ => ih m n) off) l
theorem readX_if : ∀ (l : List AV) (off n : Nat), readX l off n = if off + n ≤ l.length then some ((l.drop off).take n) else none
  | [], off, n => by
    show Nat.rec (motive := fun _ => Option (List AV)) (some []) (fun _ _ => none) (off + n) = _
    cases h : off + n with
    | zero => rw [if_pos (by simp)]; simp; rfl
    | succ m => rw [if_neg (by simp)]
  | a :: l, 0, n => by
    show takeX (a :: l) n = _
    rw [takeX_eq]
    simp
  | a :: l, off + 1, n => by
    show readX l off n = _
    rw [readX_if l off n]
    simp only [List.length_cons, List.drop_succ_cons]
    by_cases h : off + n ≤ l.length
    · rw [if_pos h, if_pos (by omega)]
    · rw [if_neg h, if_neg (by omega)]
theorem readX_eq (l : List AV) (off n : Nat) : readX l off n = readL l off n := by
  rw [readX_if]
  unfold readL
  by_cases h : off + n ≤ l.length
  · rw [if_pos h, Nat.ble_eq_true_of_le h]
  · rw [if_neg h]
    cases hb : Nat.ble (off + n) l.length with
    | false => rfl
    | true => exact absurd (Nat.le_of_ble_eq_true hb) h
noncomputable def overX (vs : List AV) : List AV → Option (List AV) :=
  List.rec (motive := fun _ => List AV → Option (List AV)) (fun l => some l) (fun v _ ih l => List.rec (motive := fun _ => Option (List AV)) none (fun _ l' _ => consO v (ih l')) l) vs
theorem overX_eq : ∀ (vs l : List AV), overX vs l = if vs.length ≤ l.length then some (vs ++ l.drop vs.length) else none
  | [], l => by
    show some l = _
    simp
  | v :: vs, [] => by
    show none = _
    simp
  | v :: vs, a :: l => by
    show consO v (overX vs l) = _
    rw [overX_eq vs l]
    by_cases h : vs.length ≤ l.length
    · rw [if_pos h, if_pos (by simp; omega)]; simp [consO]
    · rw [if_neg h, if_neg (by simp; omega)]; rfl
noncomputable def writeX (vs : List AV) (l : List AV) : Nat → Option (List AV) :=
  List.rec (motive := fun _ => Nat → Option (List AV)) (fun off => Nat.rec (motive := fun _ => Option (List AV)) (overX vs []) (fun _ _ => none) off)
    (fun a l ih off => Nat.rec (motive := fun _ => Option (List AV)) (overX vs (a :: l)) (fun m _ => consO a (ih m)) off) l
theorem writeX_if (vs : List AV) : ∀ (l : List AV) (off : Nat), writeX vs l off = if off + vs.length ≤ l.length then some (writeL l off vs) else none
  | [], 0 => by
    show overX vs [] = _
    rw [overX_eq]
    simp [writeL]
  | [], off + 1 => by
    show none = _
    rw [if_neg (fun h => by simp only [List.length_nil] at h; omega)]
  | a :: l, 0 => by
    show overX vs (a :: l) = _
    rw [overX_eq]
    simp [writeL]
  | a :: l, off + 1 => by
    show consO a (writeX vs l off) = _
    rw [writeX_if vs l off]
    by_cases h : off + vs.length ≤ l.length
    · rw [if_pos h, if_pos (by simp; omega)]
      simp [consO, writeL, show off + 1 + vs.length = (off + vs.length) + 1 by omega]
    · rw [if_neg h, if_neg (by simp; omega)]; rfl

noncomputable def St.readX (s : St) (b off n : Nat) : Option (List AV) :=
  match Nat.blt b s.n with
  | false => none
  | true => match s.h.getP (path b) with
    | some (.cells _ _ cs) => Go.Den.readX cs off n
    | _ => none
theorem St.readX_eq (s : St) (b off n : Nat) : s.readX b off n = s.read b off n := by
  unfold St.readX St.read St.get
  rw [getP_eq]
  cases Nat.blt b s.n with
  | false => rfl
  | true =>
    simp only
    cases s.h.get b with
    | none => rfl
    | some e => cases e <;> simp only [Go.Den.readX_eq]
noncomputable def wrote1 (s : St) (b : Nat) (fam : Option (Nat × Nat)) (off k : Nat) (cs : List AV) : Option St :=
  match fam with
  | none => some { s with h := s.h.setP (.cells false none cs) (path b) }
  | some (r, base) =>
    match s.get r with
    | some (.fam ms) =>
      match poison b (base + off) (base + off + k) ms s.h with
      | (ms', h') => some { s with h := (h'.set r (.fam ms')).setP (.cells false (some (r, base)) cs) (path b) }
    | _ => none
noncomputable def wrote2 (s : St) (b : Nat) (fam : Option (Nat × Nat)) (off k : Nat) (x : Option (List AV)) : Option St :=
  match x with
  | some cs => wrote1 s b fam off k cs
  | none => none
noncomputable def St.writeX (s : St) (b off : Nat) (vs : List AV) : Option St :=
  match s.h.getP (path b) with
  | some (.cells ro fam cs) => match ro with
    | true => none
    | false => match scalars vs with
      | false => none
      | true => wrote2 s b fam off vs.length (Go.Den.writeX vs cs off)
  | _ => none
theorem St.writeX_eq (s : St) (b off : Nat) (vs : List AV) : s.writeX b off vs = s.write b off vs := by
  unfold St.writeX St.write St.get
  rw [getP_eq]
  cases s.h.get b with
  | none => rfl
  | some e =>
    cases e with
    | fam => rfl
    | dead => rfl
    | cells ro fam cs =>
      cases ro with
      | true => rfl
      | false =>
        simp only
        rw [writeX_if]
        cases hs : scalars vs with
        | false => simp
        | true =>
          simp only [Bool.and_true]
          by_cases h : off + vs.length ≤ cs.length
          · rw [if_pos h, Nat.ble_eq_true_of_le h]
            simp only [wrote2, wrote1, setP_eq]
            rfl
          · rw [if_neg h]
            cases hb : Nat.ble (off + vs.length) cs.length with
            | false => rfl
            | true => exact absurd (Nat.le_of_ble_eq_true hb) h

noncomputable def forceN {α : Type} (n : Nat) (k : Nat → α) : α := Nat.rec (motive := fun _ => α) (k 0) (fun m _ => k (Nat.succ m)) n
theorem forceN_eq {α : Type} (n : Nat) (k : Nat → α) : forceN n k = k n := by cases n <;> rfl
noncomputable def newOpenF (st : St) (len m sz : Nat) (cs : List AV) : Option (AV × St) :=
  forceN st.n fun n => some (.sl (some (n, 0)) (len + m) (.more (len + m) sz), { h := (st.h.setP (.cells false (some (Nat.succ n, 0)) cs) (path n)).setP (.fam [n]) (path (Nat.succ n)), n := Nat.succ (Nat.succ n) })
theorem newOpenF_eq (st : St) (len m sz : Nat) (cs : List AV) : newOpenF st len m sz cs = some (.sl (some (st.n, 0)) (len + m) (.more (len + m) sz), st.newOpen cs) := by
  unfold newOpenF
  rw [forceN_eq, setP_eq, setP_eq]
  rfl
noncomputable def sourceF (st : St) (sz n : Nat) : AV → Option (List AV)
  | .sl (some (b, off)) len _ => match Nat.ble n len with
    | true => st.readX b off (n * sz)
    | false => none
  | .sl none _ _ => match n with
    | 0 => some []
    | _ => none
  | .str s => match Nat.ble n s.length with
    | true => some ((s.take n).map fun b => .int .u8 b.toNat)
    | false => none
  | _ => none
theorem sourceF_eq (st : St) (sz n : Nat) (v : AV) : sourceF st sz n v = sourceA st sz n v := by
  unfold sourceF sourceA
  simp only [St.readX_eq]
  rfl
noncomputable def appendF (P : Program) (st : St) (e : TypeId) (s x : AV) : Option (AV × St) :=
  match s, sizeA P e, bytesA P e, lenA x with
  | .sl a len cap, some sz, some by_, some m =>
    match Nat.blt 0 by_ && Nat.ble ((3 * (len + m) + 2000) * by_) 281474976710656 with
    | false => none
    | true =>
    match sourceF st sz m x with
    | none => none
    | some new =>
      match Nat.beq new.length (m * sz) && scalars new with
      | false => none
      | true =>
      match (match cap with | .known c => Nat.ble (len + m) c | .more lb s' => Nat.beq s' sz && Nat.ble (len + m) lb) with
      | true =>   -- there is room, surely
        match a with
        | none => some (.sl none (len + m) cap, st)
        | some (b, off) => match new with
          | [] => some (.sl (some (b, off)) (len + m) cap, st)
          | _ => match st.writeX b (off + len * sz) new with
            | some st' => some (.sl (some (b, off)) (len + m) cap, st')
            | none => none
      | false =>
        match cap with
        | .known _ =>   -- there is none
          match sourceF st sz len s with
          | none => none
          | some old => match zeroA P e with
            | none => none
            | some z => match Nat.beq z.cells.length sz && Nat.beq old.length (len * sz) with
              | true => newOpenF st len m sz (old ++ new)
              | false => none
        | .more _ s' =>   -- there may be
          match Nat.beq s' sz, a with
          | true, some (b, off) =>
            match st.get b with
            | some (.cells false (some (r, base)) cs) =>
              match st.get r, readX cs off (len * sz), zeroA P e with
              | some (.fam ms), some old, some z =>
                match Nat.beq z.cells.length sz with
                | false => none
                | true =>
                match poison st.n (base + off + len * sz) (base + off + len * sz + m * sz) ms st.h with
                | (ms', h') => some (.sl (some (st.n, 0)) (len + m) (.more (len + m) sz),
                    { h := (h'.set r (.fam (st.n :: ms'))).set st.n (.cells false (some (r, base + off)) (old ++ new)), n := st.n + 1 })
              | _, _, _ => none
            | _ => none
          | _, _ => none
  | _, _, _, _ => none
noncomputable def copyF (P : Program) (st : St) (e : TypeId) (d s : AV) : Option (AV × St) :=
  match d, sizeA P e, lenA s with
  | .sl a len _, some sz, some m =>
    match sourceF st sz (Nat.min m len) s with
    | none => none
    | some cs => match a with
      | none => some (.int .i64 (Nat.min m len), st)
      | some (b, off) => match cs with
        | [] => some (.int .i64 (Nat.min m len), st)
        | _ => match st.writeX b off cs with
          | some st' => some (.int .i64 (Nat.min m len), st')
          | none => none
  | _, _, _ => none
noncomputable def clearF (P : Program) (st : St) (e : TypeId) (x : AV) : Option (AV × St) :=
  match x, zeroA P e, sizeA P e with
  | .sl _ 0 _, _, _ => some (.tup [], st)
  | .sl (some (b, off)) len _, some z, some sz => match Nat.beq z.cells.length sz && Nat.blt 0 sz with
    | true => match st.writeX b off (timesL len z.cells) with
      | some st' => some (.tup [], st')
      | none => none
    | false => none
  | _, _, _ => none

theorem appendF_eq (P : Program) (st : St) (e : TypeId) (s x : AV) : appendF P st e s x = appendA P st e s x := by
  unfold appendF appendA
  simp only [St.writeX_eq, sourceF_eq, readX_eq, newOpenF_eq]
  rfl
theorem copyF_eq (P : Program) (st : St) (e : TypeId) (d s : AV) : copyF P st e d s = copyA P st e d s := by
  unfold copyF copyA
  simp only [St.writeX_eq, sourceF_eq]
  rfl
theorem clearF_eq (P : Program) (st : St) (e : TypeId) (x : AV) : clearF P st e x = clearA P st e x := by
  unfold clearF clearA
  simp only [St.writeX_eq]
  rfl

/- ### Operations -/
def ret1 (st : St) : Option AV → Option (AV × St)
  | some v => some (v, st)
  | none => none
noncomputable def alloc2 (st : St) (n : Nat) : Option (AV × List AV) → Option (AV × St)
  | some (v, cs) => some (v, { h := st.h.setP (.cells false none cs) (path n), n := Nat.succ n })
  | none => none
noncomputable def alloc1 (st : St) (f : Nat → Option (AV × List AV)) : Option (AV × St) := forceN st.n fun n => alloc2 st n (f n)
theorem alloc1_eq (st : St) (f : Nat → Option (AV × List AV)) : alloc1 st f = match f st.n with | some (v, cs) => some (v, st.new cs) | none => none := by
  unfold alloc1
  rw [forceN_eq]
  cases f st.n with
  | none => rfl
  | some x => simp only [alloc2, setP_eq]; rfl
noncomputable def read1 (st : St) : Option (Nat × Nat × Nat × Made) → Option (AV × St)
  | some (b, off, n, mk) => match st.readX b off n with
    | some l => match madeA mk l with
      | some v => some (v, st)
      | none => none
    | none => none
  | none => none
def load1 (P : Program) (t : TypeId) : Option AV → Option (Nat × Nat × Nat × Made)
  | some (.ptr (some (b, off))) => match isAggA P t, sizeA P t with
    | some true, some n => some (b, off, n, .agg)
    | some false, some _ => some (b, off, 1, .one)
    | _, _ => none
  | _ => none
noncomputable def store1 (P : Program) (t : TypeId) (st : St) (a x : Option AV) : Option (AV × St) :=
  match a, x, sizeA P t with
  | some (.ptr (some (b, off))), some v, some n => match Nat.beq v.cells.length n with
    | true => match st.writeX b off v.cells with
      | some st' => some (undefA, st')
      | none => none
    | false => none
  | _, _, _ => none
def pick1 (c a b : Option AV) : Option AV :=
  match c with
  | some (.bool true) => a
  | some (.bool false) => b
  | _ => none
noncomputable def getO {α : Type} (l : List α) : Nat → Option α :=
  List.rec (motive := fun _ => Nat → Option α) (fun _ => none) (fun a _ ih i => Nat.rec (motive := fun _ => Option α) (some a) (fun j _ => ih j) i) l
theorem getO_eq {α : Type} : ∀ (l : List α) (i : Nat), getO l i = l[i]?
  | [], i => by show none = _; simp
  | a :: l, 0 => rfl
  | a :: l, i + 1 => by show getO l i = _; rw [getO_eq l i]; simp
noncomputable def lenR {α : Type} (l : List α) : Nat := List.rec (motive := fun _ => Nat) 0 (fun _ _ ih => Nat.succ ih) l
theorem lenR_eq {α : Type} : ∀ (l : List α), lenR l = l.length
  | [] => rfl
  | a :: l => by show Nat.succ (lenR l) = _; rw [lenR_eq l]; rfl
noncomputable def fill2 (cs : List AV) (size : Nat) (x : Option (List AV)) (ih : List AV → Option (List AV)) : Option (List AV) :=
  match Nat.beq (lenR cs) size with
  | true => match x with
    | some cs => ih cs
    | none => none
  | false => none
noncomputable def fill1 (at_ : Option (Nat × Nat)) (cs cells : List AV) (ih : List AV → Option (List AV)) : Option (List AV) :=
  match at_ with
  | none => none
  | some (off, size) => fill2 cs size (Go.Den.writeX cs cells off) ih
noncomputable def fillF (place : Nat → Option (Nat × Nat)) (cells : List AV) (parts : List (Nat × AV)) : Option (List AV) :=
  List.rec (motive := fun _ => List AV → Option (List AV)) (fun cells => some cells)
    (fun p _ ih cells => Prod.rec (motive := fun _ => Option (List AV)) (fun i v => fill1 (place i) v.cells cells ih) p) parts cells
theorem fillF_eq (place : Nat → Option (Nat × Nat)) : ∀ (parts : List (Nat × AV)) (cells : List AV), fillF place cells parts = fillA place cells parts
  | [], cells => rfl
  | (i, v) :: rest, cells => by
    show fill1 (place i) v.cells cells (fun cells => fillF place cells rest) = _
    simp only [fill1, fill2, fillA, lenR_eq]
    cases place i with
    | none => rfl
    | some x =>
      obtain ⟨off, size⟩ := x
      simp only
      cases hb : Nat.beq v.cells.length size with
      | false => simp
      | true =>
        simp only [Bool.true_and]
        rw [writeX_if]
        by_cases h : off + v.cells.length ≤ cells.length
        · rw [if_pos h, Nat.ble_eq_true_of_le h]
          exact fillF_eq place rest _
        · rw [if_neg h]
          cases hb : Nat.ble (off + v.cells.length) cells.length with
          | false => rfl
          | true => exact absurd (Nat.le_of_ble_eq_true hb) h
noncomputable def build2 (P : Program) (t : TypeId) (parts : List (Nat × AV)) : Option AV :=
  match zeroA P t with
  | none => none
  | some z =>
    match P.underlying t with
    | some (.struct fields) => match placesA P fields.toList with
      | none => none
      | some pl => match fillF (fun i => getO pl i) z.cells parts with
        | some cs => some (.agg cs)
        | none => none
    | some (.array _ e) => match sizeA P e with
      | none => none
      | some n => match fillF (fun i => some (i * n, n)) z.cells parts with
        | some cs => some (.agg cs)
        | none => none
    | _ => none
theorem build2_eq (P : Program) (t : TypeId) (parts : List (Nat × AV)) : build2 P t parts = buildA P t parts := by
  unfold build2 buildA
  simp only [fillF_eq, getO_eq]
  rfl
noncomputable def build1 (P : Program) (t : TypeId) : Option (List (Nat × AV)) → Option AV
  | some l => build2 P t l
  | none => none
def nil1 : Option AV → Option AV
  | some (.ptr (some a)) => some (.ptr (some a))
  | some (.fn (.func f) first caps) => some (.fn (.func f) first caps)
  | _ => none
def un1 (op : UnOp) : Option AV → Option AV
  | some a => unA op a
  | none => none
def conv1 (P : Program) (src dst : TypeId) : Option AV → Option AV
  | some a => convA P src dst a
  | none => none
def bytes1 (P : Program) (e : TypeId) (x : Option AV) : Option (Nat × Nat × Nat × Made) :=
  match P.underlying e, x with
  | some (.int .u8), some (.sl (some (b, off)) len _) => some (b, off, len, .bytes)
  | _, _ => none
noncomputable def convE (P : Program) (st : St) (src dst : TypeId) (x : Option AV) : Option (AV × St) :=
  match P.underlying src, P.underlying dst with
  | some (.slice e), some .string => read1 st (bytes1 P e x)
  | some .string, some (.slice _) => none
  | _, _ => ret1 st (conv1 P src dst x)
def mkfn1 (f : Fn) (l c : Option (List AV)) : Option AV :=
  match f with
  | .func f => match l, c with
    | some l, some c => some (.fn (.func f) l c)
    | _, _ => none
  | _ => none
def slice1 (P : Program) (t : TypeId) (x : Option AV) (lo hi mx : Option (Option AV)) : Option AV :=
  match x, lo, hi, mx with
  | some a, some l, some h, some m => sliceA P t a l h m
  | _, _, _, _ => none
def fa1 (P : Program) (t : TypeId) (f : Nat) : Option AV → Option AV
  | some a => fieldAddrA P t a f
  | none => none
def fd1 (P : Program) (t : TypeId) (f : Nat) : Option AV → Option AV
  | some a => fieldA P t a f
  | none => none
def ia1 (P : Program) (t : TypeId) (x i : Option AV) : Option AV :=
  match x with
  | none => none
  | some a => match i with
    | none => none
    | some i => idxA2 P t a i
def ix1 (P : Program) (t : TypeId) (x i : Option AV) : Option AV :=
  match x with
  | none => none
  | some a => match i with
    | none => none
    | some i => indexA P t a i
def ext1 (i : Nat) : Option AV → Option AV
  | some (.tup vs) => vs[i]?
  | _ => none
def len1 (P : Program) (t : TypeId) (x : Option AV) : Option AV :=
  match x, P.underlying t with
  | some (.str s), some .string => some (.int .i64 s.length)
  | some (.sl _ n _), some (.slice _) => some (.int .i64 n)
  | some _, some (.array n _) => some (.int .i64 n)
  | _, _ => none
def cap1 (P : Program) (t : TypeId) (x : Option AV) : Option AV :=
  match x, P.underlying t with
  | some (.sl _ _ (.known c)), some (.slice _) => some (.int .i64 c)
  | _, _ => none
def mm1 (mx : Bool) : Option (List AV) → Option AV
  | some l => minmaxA mx l
  | none => none
def box1 (n : Nat) : Option AV → Option (AV × List AV)
  | some v => some (.ptr (some (n, 0)), v.cells)
  | none => none
def new1 (P : Program) (n : Nat) (t : TypeId) : Option (AV × List AV) :=
  match zeroA P t with
  | some z => some (.ptr (some (n, 0)), z.cells)
  | none => none
noncomputable def bslice1 (P : Program) (n : Nat) (t : TypeId) (len : Nat) (parts : Option (List (Nat × AV))) : Option (AV × List AV) :=
  match P.underlying t, parts with
  | some (.slice e), some l => match sizeA P e with
    | some sz => match Nat.ble (len * sz) 16777216 with
      | false => none
      | true =>
        match (match Nat.beq (len * sz) 0 with | true => some [] | false => match zeroA P e with | some z => (match Nat.beq z.cells.length sz with | true => some (timesL len z.cells) | false => none) | none => none : Option (List AV)) with
        | none => none
        | some z => match fillF (fun i => some (i * sz, sz)) z l with
          | some cs => some (.sl (some (n, 0)) len (.known len), cs)
          | none => none
    | none => none
  | _, _ => none
def mslice1 (P : Program) (n : Nat) (t : TypeId) (l c : Option AV) : Option (AV × List AV) :=
  match P.underlying t, l, c with
  | some (.slice e), some (.int _ l), some (.int _ c) => match sizeA P e, bytesA P e with
    | some sz, some by_ =>
      match decide (0 ≤ l) && decide (l ≤ c) && decide (c ≤ 9223372036854775807) && decide ((by_ : Int) * c ≤ 140737488355328) with
      | false => none
      | true => match (match Nat.beq (c.toNat * sz) 0 with | true => some [] | false => match zeroA P e with | some z => (match Nat.beq z.cells.length sz with | true => some (timesL c.toNat z.cells) | false => none) | none => none : Option (List AV)) with
        | none => none
        | some z => some (.sl (some (n, 0)) l.toNat (.known c.toNat), z)
    | _, _ => none
  | _, _, _ => none
noncomputable def append1 (P : Program) (st : St) (t u : TypeId) (s x : Option AV) : Option (AV × St) :=
  match P.underlying t, P.underlying u, s, x with
  | some (.slice e), some (.slice _), some s, some x => appendF P st e s x
  | some (.slice e), some .string, some s, some x => appendF P st e s x
  | _, _, _, _ => none
noncomputable def copy1 (P : Program) (st : St) (t : TypeId) (d s : Option AV) : Option (AV × St) :=
  match P.underlying t, d, s with
  | some (.slice e), some d, some s => copyF P st e d s
  | _, _, _ => none
noncomputable def clear1 (P : Program) (st : St) (t : TypeId) (x : Option AV) : Option (AV × St) :=
  match P.underlying t, x with
  | some (.slice e), some x => clearF P st e x
  | _, _ => none
def value1 (P : Program) (call : CallA) (st : St) (f : Option AV) (args : Option (List AV)) : Option (AV × St) :=
  match f, args with
  | some (.fn (.func g) first caps), some l =>
    match P.funcs[g]? with
    | some fn => match fn.body with
      | some _ => call g (first ++ l ++ caps) st
      | none => match externA fn.name (first ++ l ++ caps) with
        | some v => some (v, st)
        | none => none
    | none => none
  | _, _ => none
noncomputable def builtinE (P : Program) (ev : Operand → Option AV) (st : St) (b : Builtin) (args : List Operand) (ts : List TypeId) : Option (AV × St) :=
  match b with
  | .len => match args, ts with
    | [x], [t] => ret1 st (len1 P t (ev x))
    | _, _ => none
  | .cap => match args, ts with
    | [x], [t] => ret1 st (cap1 P t (ev x))
    | _, _ => none
  | .max => ret1 st (mm1 true (evsE ev args))
  | .min => ret1 st (mm1 false (evsE ev args))
  | .append => match args, ts with
    | [s, x], [t, u] => append1 P st t u (ev s) (ev x)
    | _, _ => none
  | .copy => match args, ts with
    | [d, s], [t, _] => copy1 P st t (ev d) (ev s)
    | _, _ => none
  | .clear => match args, ts with
    | [x], [t] => clear1 P st t (ev x)
    | _, _ => none
  | _ => none
noncomputable def callE (P : Program) (call : CallA) (ev : Operand → Option AV) (st : St) (c : Call) : Option (AV × St) :=
  match c.callee with
  | .value f => value1 P call st (ev f) (evsE ev c.args.toList)
  | .builtin b => builtinE P ev st b c.args.toList c.argTypes.toList
  | _ => none
noncomputable def opE (P : Program) (call : CallA) (ev : Operand → Option AV) (st : St) (o : Op) : Option (AV × St) :=
  match o with
  | .move x => ret1 st (ev x)
  | .assign x => ret1 st (ev x)
  | .pick c a b => ret1 st (pick1 (ev c) (ev a) (ev b))
  | .alloc t => alloc1 st (fun n => new1 P n t)
  | .box _ x => alloc1 st (fun n => box1 n (ev x))
  | .build t parts => ret1 st (build1 P t (evPartsE ev parts.toList))
  | .buildSlice t len parts => alloc1 st (fun n => bslice1 P n t len (evPartsE ev parts.toList))
  | .load t x => read1 st (load1 P t (ev x))
  | .store t a x => store1 P t st (ev a) (ev x)
  | .nilCheck x => ret1 st (nil1 (ev x))
  | .binOp op t x y _ => ret1 st (bin1 P op t (ev x) (ev y))
  | .unOp op _ x => ret1 st (un1 op (ev x))
  | .convert src dst x => convE P st src dst (ev x)
  | .makeFunc f first captured => ret1 st (mkfn1 f (evsE ev first.toList) (evsE ev captured.toList))
  | .makeSlice t l c => alloc1 st (fun n => mslice1 P n t (ev l) (ev c))
  | .slice t x lo hi mx => ret1 st (slice1 P t (ev x) (evOptE ev lo) (evOptE ev hi) (evOptE ev mx))
  | .fieldAddr t x f => ret1 st (fa1 P t f (ev x))
  | .field t x f => ret1 st (fd1 P t f (ev x))
  | .indexAddr t x ix => ret1 st (ia1 P t (ev x) (ev ix))
  | .index t x ix => ret1 st (ix1 P t (ev x) (ev ix))
  | .extract x i => ret1 st (ext1 i (ev x))
  | .call c => callE P call ev st c
  | _ => none

theorem opE_eq (P : Program) (call : CallA) (tmps : List AV) (st : St) (o : Op) : opE P call (evA tmps) st o = opA P call tmps st o := by
  cases o with
  | binOp op t x y u =>
    simp only [opE, opA, clsOf, pureA, bin1]
    cases evA tmps x <;> cases evA tmps y <;> simp only [bin2_eq] <;> rfl
  | indexAddr t x ix =>
    simp only [opE, opA, clsOf, pureA, ia1]
    cases evA tmps x <;> cases evA tmps ix <;> simp only [idxA2_eq] <;> rfl
  | build t parts =>
    simp only [opE, opA, clsOf, pureA, evPartsE_eq, build1]
    cases evPartsA tmps parts.toList with
    | none => rfl
    | some l => simp only [build2_eq]; rfl
  | alloc t => simp only [opE, alloc1_eq]; rfl
  | box t x => simp only [opE, alloc1_eq]; rfl
  | makeSlice t l c => simp only [opE, alloc1_eq]; rfl
  | load t x => simp only [opE, read1, St.readX_eq]; rfl
  | store t a x => simp only [opE, store1, St.writeX_eq]; rfl
  | buildSlice t len parts => simp only [opE, evPartsE_eq, alloc1_eq, bslice1, fillF_eq]; rfl
  | slice t x lo hi mx => simp only [opE, evOptE_eq]; rfl
  | makeFunc f first captured => simp only [opE, evsE_eq]; cases f <;> rfl
  | index t x ix =>
    simp only [opE, opA, clsOf, pureA, ix1]
    cases evA tmps x <;> cases evA tmps ix <;> rfl
  | convert src dst x =>
    simp only [opE, convE]
    split
    · rename_i e h1 h2
      simp only [opA, clsOf, h1, h2, readA, bytes1, read1, St.readX_eq]
      try rfl
    · rename_i e h1 h2
      simp only [opA, clsOf, h1, h2, effA]
    · rename_i h1 h2
      have hc : clsOf P (.convert src dst x) = .pure := by
        simp only [clsOf]
      simp only [opA, hc]
      rfl
  | call c =>
    obtain ⟨callee, args, ts⟩ := c
    obtain ⟨args⟩ := args
    obtain ⟨ts⟩ := ts
    cases callee with
    | value f => simp only [opE, callE, evsE_eq]; rfl
    | invoke r m => rfl
    | builtin b =>
      cases b with
      | max => simp only [opE, callE, builtinE, evsE_eq]; rfl
      | min => simp only [opE, callE, builtinE, evsE_eq]; rfl
      | len => rcases args with _ | ⟨x, _ | ⟨y, r⟩⟩ <;> rcases ts with _ | ⟨u, _ | ⟨v, q⟩⟩ <;> rfl
      | cap => rcases args with _ | ⟨x, _ | ⟨y, r⟩⟩ <;> rcases ts with _ | ⟨u, _ | ⟨v, q⟩⟩ <;> rfl
      | clear => rcases args with _ | ⟨x, _ | ⟨y, r⟩⟩ <;> rcases ts with _ | ⟨u, _ | ⟨v, q⟩⟩ <;> first | rfl | (simp only [opE, callE, builtinE, clear1, clearF_eq]; rfl)
      | append => rcases args with _ | ⟨x, _ | ⟨y, _ | ⟨z, r⟩⟩⟩ <;> rcases ts with _ | ⟨u, _ | ⟨v, _ | ⟨w, q⟩⟩⟩ <;> first | rfl | (simp only [opE, callE, builtinE, append1, copy1, appendF_eq, copyF_eq]; rfl)
      | copy => rcases args with _ | ⟨x, _ | ⟨y, _ | ⟨z, r⟩⟩⟩ <;> rcases ts with _ | ⟨u, _ | ⟨v, _ | ⟨w, q⟩⟩⟩ <;> first | rfl | (simp only [opE, callE, builtinE, append1, copy1, appendF_eq, copyF_eq]; rfl)
      | _ => rfl
  | _ => rfl

/- ### Regions -/
noncomputable def guardF (ops : Array Oper) (t : T) (o : Oper) : Bool :=
  match o.guard with
  | none => true
  | some (j, want) => match ops[j]? with
    | some g => match g.dst with
      | some d => match t.get (path d) with
        | .bool b => b == want
        | _ => false
      | none => false
    | none => false
theorem guardF_eq {t : T} {l : List AV} (h : Rt t l) (ops : Array Oper) (o : Oper) : guardF ops t o = guardA ops l o := by
  unfold guardF guardA
  cases o.guard with
  | none => rfl
  | some x =>
    obtain ⟨j, want⟩ := x
    simp only
    cases ops[j]? with
    | none => rfl
    | some g =>
      simp only
      cases g.dst with
      | none => rfl
      | some d =>
        simp only
        rw [h d]
        simp only [List.getD]
        cases l[d]? with
        | none => rfl
        | some v => cases v <;> rfl
noncomputable def putF (n : Nat) (t : T) : Option Tmp → AV → Option T
  | none, _ => some t
  | some d, v => match Nat.blt d n with
    | true => some (t.set v (path d))
    | false => none
theorem putF_some {n : Nat} {t t' : T} {l : List AV} {d : Option Tmp} {v : AV} (h : Rt t l) (hn : l.length = n) (e : putF n t d v = some t') : Rt t' (putA l d v) ∧ (putA l d v).length = n := by
  cases d with
  | none => simp only [putF] at e; cases e; exact ⟨h, hn⟩
  | some d =>
    simp only [putF] at e
    split at e
    · rename_i hd
      have := Nat.le_of_ble_eq_true hd
      cases e
      exact ⟨h.set (by omega) v, by simp [putA, hn]⟩
    · cases e
noncomputable def put2 (n : Nat) (t : T) (d : Option Tmp) : Option (AV × St) → Option (T × St)
  | some (v, st) => match putF n t d v with
    | some t' => some (t', st)
    | none => none
  | none => none
noncomputable def stepF (P : Program) (call : CallA) (ops : Array Oper) (n : Nat) (o : Oper) (t : T) (st : St) : Option (T × St) :=
  match guardF ops t o with
  | false => put2 n t o.dst (some (undefA, st))
  | true => put2 n t o.dst (opE P call (evF t) st o.op)
theorem stepF_some {P : Program} {call : CallA} {ops : Array Oper} {n : Nat} {o : Oper} {t t' : T} {st st' : St} {l : List AV} (h : Rt t l) (hn : l.length = n) (e : stepF P call ops n o t st = some (t', st')) :
    ∃ l', stepA P call ops o l st = some (l', st') ∧ Rt t' l' ∧ l'.length = n := by
  unfold stepF at e
  rw [guardF_eq h, evF_eq h, opE_eq] at e
  unfold stepA
  cases hg : guardA ops l o with
  | false =>
    rw [hg] at e
    simp only [put2] at e
    split at e
    · rename_i t1 ht
      cases e
      obtain ⟨h1, h2⟩ := putF_some h hn ht
      exact ⟨_, rfl, h1, h2⟩
    · cases e
  | true =>
    rw [hg] at e
    cases hop : opA P call l st o.op with
    | none => rw [hop] at e; cases e
    | some x =>
      obtain ⟨v, st1⟩ := x
      rw [hop] at e
      simp only [put2] at e
      split at e
      · rename_i t1 ht
        cases e
        obtain ⟨h1, h2⟩ := putF_some h hn ht
        exact ⟨_, rfl, h1, h2⟩
      · cases e
noncomputable def opsF (P : Program) (call : CallA) (ops : Array Oper) (n : Nat) (os : List Oper) : T → St → Option (T × St) :=
  List.rec (motive := fun _ => T → St → Option (T × St)) (fun t st => some (t, st))
    (fun o _ ih t st => Option.rec (motive := fun _ => Option (T × St)) none (fun x => Prod.rec (motive := fun _ => Option (T × St)) (fun t' st' => ih t' st') x) (stepF P call ops n o t st)) os
theorem opsF_some {P : Program} {call : CallA} {ops : Array Oper} {n : Nat} : ∀ (os : List Oper) {t t' : T} {st st' : St} {l : List AV}, Rt t l → l.length = n → opsF P call ops n os t st = some (t', st') →
    ∃ l', opsA P call ops os l st = some (l', st') ∧ Rt t' l' ∧ l'.length = n
  | [], t, t', st, st', l, h, hn, e => by
    cases e
    exact ⟨l, rfl, h, hn⟩
  | o :: os, t, t', st, st', l, h, hn, e => by
    have e' : (Option.rec (motive := fun _ => Option (T × St)) none (fun x => Prod.rec (motive := fun _ => Option (T × St)) (fun t' st' => opsF P call ops n os t' st') x) (stepF P call ops n o t st)) = some (t', st') := e
    cases hs : stepF P call ops n o t st with
    | none => rw [hs] at e'; cases e'
    | some x =>
      obtain ⟨t1, st1⟩ := x
      rw [hs] at e'
      obtain ⟨l1, h1, h2, h3⟩ := stepF_some h hn hs
      obtain ⟨l2, h4, h5, h6⟩ := opsF_some os h2 h3 e'
      exact ⟨l2, by simp only [opsA, h1]; exact h4, h5, h6⟩
/-- The slots as a list again. -/
noncomputable def T.list (t : T) : Nat → List AV := fun n => (List.range n).map fun i => t.get (path i)
theorem Rt.list {t : T} {l : List AV} (h : Rt t l) : t.list l.length = l := by
  apply List.ext_getElem
  · simp [T.list]
  · intro i h1 h2
    simp only [T.list, List.getElem_map, List.getElem_range]
    rw [h i]
    simp [List.getD, h2]
theorem Rt.ofList (l : List AV) : Rt (T.ofL l 0 .leaf) l := by
  have := Rt.start l 0
  simpa [padA] using this
noncomputable def regionF (P : Program) (call : CallA) (n : Nat) (q : Bool) (ops : Array Oper) (draw : Bool) (t : T) (st : St) : Option (T × St) :=
  match q || !drawsA P ops draw with
  | true => opsF P call ops n ops.toList t st
  | false => match regionA P call ops draw (t.list n) st with
    | some (l, st') => match Nat.beq l.length n with
      | true => some (T.ofL l 0 .leaf, st')
      | false => none
    | none => none
theorem regionF_some {P : Program} {call : CallA} {n : Nat} {q : Bool} {ops : Array Oper} {draw : Bool} {t t' : T} {st st' : St} {l : List AV} (hq : q = true → drawsA P ops draw = false) (h : Rt t l) (hn : l.length = n) (e : regionF P call n q ops draw t st = some (t', st')) :
    ∃ l', regionA P call ops draw l st = some (l', st') ∧ Rt t' l' ∧ l'.length = n := by
  unfold regionF at e
  split at e
  · rename_i hd0
    have hd : drawsA P ops draw = false := by
      cases q with
      | true => exact hq rfl
      | false => simpa using hd0
    obtain ⟨l', h1, h2, h3⟩ := opsF_some _ h hn e
    exact ⟨l', by unfold regionA; rw [hd]; exact h1, h2, h3⟩
  · subst hn
    rw [h.list] at e
    split at e
    · rename_i l' st1 hr
      split at e
      · rename_i hl
        cases e
        exact ⟨l', hr, Rt.ofList l', Nat.eq_of_beq_eq_true hl⟩
      · cases e
    · cases e

/- ### Code, calls -/
/-- Are all regions such that the text's order will do? -/
def quietC (P : Program) : Code → Bool
  | .region _ ops draw => !drawsA P ops draw
  | .seq a b => quietC P a && quietC P b
  | .cond _ a b => quietC P a && quietC P b
  | .block _ a => quietC P a
  | .loop a => quietC P a
  | _ => true
def quietG (P : Program) (g : FuncId) : Bool :=
  match P.funcs[g]? with
  | some fn => match fn.body with
    | some c => quietC P c
    | none => true
  | none => true
def quietAllA (P : Program) (ex : List FuncId) : Bool := (List.range P.funcs.size).all fun g => ex.contains g || quietG P g
abbrev OutF := Option (Ex × T × St)
noncomputable def loopF (f : T → St → OutF) (n : Nat) : T → St → OutF :=
  Nat.rec (motive := fun _ => T → St → OutF) (fun _ _ => none) (fun _ ih t s => match f t s with
    | some (.normal, t', s') => ih t' s'
    | r => r) n
noncomputable def condF (c : Option AV) (a b : OutF) : OutF :=
  match c with
  | some (.bool true) => a
  | some (.bool false) => b
  | _ => none
noncomputable def seqF (x : OutF) (g : T → St → OutF) : OutF :=
  match x with
  | some (.normal, t', s') => g t' s'
  | r => r
noncomputable def blockF (id : Nat) (x : OutF) : OutF :=
  match x with
  | some (.exit j, t', s') => match Nat.beq j id with
    | true => some (.normal, t', s')
    | false => some (.exit j, t', s')
  | r => r
noncomputable def outF (x : Option (T × St)) : OutF :=
  match x with
  | some (t, s) => some (.normal, t, s)
  | none => none
noncomputable def codeF (P : Program) (call : CallA) (L n : Nat) (q : Bool) (c : Code) : T → St → OutF :=
  Code.rec (motive := fun _ => T → St → OutF)
    (fun t s => some (.normal, t, s))
    (fun _ ops draw t s => outF (regionF P call n q ops draw t s))
    (fun _ _ fa fb t s => seqF (fa t s) fb)
    (fun c _ _ fa fb t s => condF (evF t c) (fa t s) (fb t s))
    (fun id _ fa t s => blockF id (fa t s))
    (fun _ fa t s => loopF fa L t s)
    (fun _ _ _ _ _ _ _ _ => none)
    (fun id t s => some (.exit id, t, s))
    (fun _ _ _ _ => none)
    (fun _ t s => some (.normal, t, s))
    (fun _ _ _ => none)
    (fun t s => some (.ret, t, s))
    (fun _ _ _ => none) c
end Go.Den

/- The faster form of code and calls comes to what the abstract machine comes to. -/
namespace Go.Den
open Go

/-- What the faster form comes to, the abstract machine comes to. -/
def Sim (n : Nat) (F : T → St → OutF) (f : List AV → St → OutA) : Prop :=
  ∀ (t t' : T) (l : List AV) (s s' : St) (x : Ex), Rt t l → l.length = n → F t s = some (x, t', s') → ∃ l', f l s = some (x, l', s') ∧ Rt t' l' ∧ l'.length = n

theorem sim_loop {n : Nat} {F : T → St → OutF} {f : List AV → St → OutA} (h : Sim n F f) : ∀ k, Sim n (loopF F k) (loopA f k)
  | 0 => fun t t' l s s' x _ _ e => by cases e
  | k + 1 => fun t t' l s s' x hr hn e => by
    have e' : (match F t s with
      | some (.normal, t', s') => loopF F k t' s'
      | r => r) = some (x, t', s') := e
    simp only [loopA]
    cases hf : F t s with
    | none => rw [hf] at e'; cases e'
    | some y =>
      obtain ⟨x1, t1, s1⟩ := y
      obtain ⟨l1, h1, h2, h3⟩ := h t t1 l s s1 x1 hr hn hf
      rw [hf] at e'
      rw [h1]
      cases x1 with
      | normal => exact sim_loop h k t1 t' l1 s1 s' x h2 h3 e'
      | exit id => cases e'; exact ⟨l1, rfl, h2, h3⟩
      | ret => cases e'; exact ⟨l1, rfl, h2, h3⟩

theorem sim_code {P : Program} {call : CallA} {L n : Nat} {q : Bool} : ∀ (c : Code), (q = true → quietC P c = true) → Sim n (codeF P call L n q c) (codeA P call L c)
  | .skip, hq => fun t t' l s s' x hr hn e => by
    have e' : some (Ex.normal, t, s) = some (x, t', s') := e
    cases e'; exact ⟨l, rfl, hr, hn⟩
  | .label i, hq => fun t t' l s s' x hr hn e => by
    have e' : some (Ex.normal, t, s) = some (x, t', s') := e
    cases e'; exact ⟨l, rfl, hr, hn⟩
  | .exit id, hq => fun t t' l s s' x hr hn e => by
    have e' : some (Ex.exit id, t, s) = some (x, t', s') := e
    cases e'; exact ⟨l, rfl, hr, hn⟩
  | .ret, hq => fun t t' l s s' x hr hn e => by
    have e' : some (Ex.ret, t, s) = some (x, t', s') := e
    cases e'; exact ⟨l, rfl, hr, hn⟩
  | .goto _, hq => fun t t' l s s' x hr hn e => by
    have e' : none = some (x, t', s') := e
    cases e'
  | .refuse _, hq => fun t t' l s s' x hr hn e => by
    have e' : none = some (x, t', s') := e
    cases e'
  | .scope _, hq => fun t t' l s s' x hr hn e => by
    have e' : none = some (x, t', s') := e
    cases e'
  | .rangeFunc _ _ _ _, hq => fun t t' l s s' x hr hn e => by
    have e' : none = some (x, t', s') := e
    cases e'
  | .region id ops draw, hq => fun t t' l s s' x hr hn e => by
    have e' : outF (regionF P call n q ops draw t s) = some (x, t', s') := e
    cases hf : regionF P call n q ops draw t s with
    | none => rw [hf] at e'; cases e'
    | some y =>
      obtain ⟨t1, s1⟩ := y
      rw [hf] at e'
      cases e'
      obtain ⟨l1, h1, h2, h3⟩ := regionF_some (fun e => by have := hq e; simpa [quietC] using this) hr hn hf
      exact ⟨l1, by simp only [codeA, h1], h2, h3⟩
  | .seq a b, hq => fun t t' l s s' x hr hn e => by
    have e' : seqF (codeF P call L n q a t s) (codeF P call L n q b) = some (x, t', s') := e
    cases hf : codeF P call L n q a t s with
    | none => rw [hf] at e'; cases e'
    | some y =>
      obtain ⟨x1, t1, s1⟩ := y
      obtain ⟨l1, h1, h2, h3⟩ := sim_code a (fun e => by have := hq e; simp only [quietC, Bool.and_eq_true] at this; exact this.1) t t1 l s s1 x1 hr hn hf
      rw [hf] at e'
      simp only [codeA, h1]
      cases x1 with
      | normal => exact sim_code b (fun e => by have := hq e; simp only [quietC, Bool.and_eq_true] at this; exact this.2) t1 t' l1 s1 s' x h2 h3 e'
      | exit id => cases e'; exact ⟨l1, rfl, h2, h3⟩
      | ret => cases e'; exact ⟨l1, rfl, h2, h3⟩
  | .cond c a b, hq => fun t t' l s s' x hr hn e => by
    have e' : condF (evF t c) (codeF P call L n q a t s) (codeF P call L n q b t s) = some (x, t', s') := e
    rw [evF_eq hr] at e'
    simp only [codeA]
    unfold condF at e'
    split at e'
    · rename_i hc
      rw [hc]
      exact sim_code a (fun e => by have := hq e; simp only [quietC, Bool.and_eq_true] at this; exact this.1) t t' l s s' x hr hn e'
    · rename_i hc
      rw [hc]
      exact sim_code b (fun e => by have := hq e; simp only [quietC, Bool.and_eq_true] at this; exact this.2) t t' l s s' x hr hn e'
    · cases e'
  | .block id c, hq => fun t t' l s s' x hr hn e => by
    have e' : blockF id (codeF P call L n q c t s) = some (x, t', s') := e
    cases hf : codeF P call L n q c t s with
    | none => rw [hf] at e'; cases e'
    | some y =>
      obtain ⟨x1, t1, s1⟩ := y
      obtain ⟨l1, h1, h2, h3⟩ := sim_code c (fun e => by have := hq e; simpa only [quietC] using this) t t1 l s s1 x1 hr hn hf
      rw [hf] at e'
      simp only [codeA, h1]
      cases x1 with
      | normal => cases e'; exact ⟨l1, rfl, h2, h3⟩
      | exit j =>
        simp only [blockF] at e'
        simp only
        cases hj : Nat.beq j id with
        | true => rw [hj] at e'; cases e'; exact ⟨l1, rfl, h2, h3⟩
        | false => rw [hj] at e'; cases e'; exact ⟨l1, rfl, h2, h3⟩
      | ret => cases e'; exact ⟨l1, rfl, h2, h3⟩
  | .loop c, hq => fun t t' l s s' x hr hn e => by
    have e' : loopF (codeF P call L n q c) L t s = some (x, t', s') := e
    simp only [codeA]
    exact sim_loop (sim_code c (fun e => by have := hq e; simpa only [quietC] using this)) L t t' l s s' x hr hn e'

noncomputable def resEach (P : Program) (st : St) (t : T) : List ResultVar → Option (List AV)
  | [] => some []
  | .tmp i :: rs => match resEach P st t rs with
    | some l => some (t.get (path i) :: l)
    | none => none
  | .cell a ty :: rs => match load1 P ty (some (t.get (path a))) with
    | some (b, off, n, mk) => match st.readX b off n with
      | some l => match madeA mk l with
        | some v => match resEach P st t rs with
          | some l => some (v :: l)
          | none => none
        | none => none
      | none => none
    | none => none
theorem resEach_eq (P : Program) (st : St) {t : T} {l : List AV} (h : Rt t l) : ∀ rs, resEach P st t rs = resA P st l rs
  | [] => rfl
  | .tmp i :: rs => by
    simp only [resEach, resA, resEach_eq P st h rs, h i]
    rfl
  | .cell a ty :: rs => by
    simp only [resEach, resA, resEach_eq P st h rs, h a, St.readX_eq]
    rfl
noncomputable def res3 (P : Program) (st : St) (t : T) (fn : Func) : Option AV :=
  match resEach P st t fn.results.toList with
  | some [v] => some v
  | some l => some (.tup l)
  | none => none
noncomputable def resF2 (P : Program) (st : St) (t : T) (fn : Func) (x : Ex) : Option (AV × St) :=
  match x with
  | .exit _ => none
  | _ => ret1 st (res3 P st t fn)
noncomputable def bodyF (P : Program) (call : CallA) (L : Nat) (q : Bool) (args : List AV) (st : St) (fn : Func) (n : Nat) (c : Code) : Option (AV × St) :=
  match codeF P call L n q c (T.ofL args 0 .leaf) st with
  | some (x, t, s) => resF2 P s t fn x
  | none => none
/-- A call, in the faster form. -/
noncomputable def callF (P : Program) (ex : List FuncId) (pr : FuncId → Option (List AV → St → Option (AV × St))) (L n : Nat) : CallA :=
  Nat.rec (motive := fun _ => CallA) (fun _ _ _ => none) (fun _ ih g args st =>
    match pr g with
    | some f => f args st
    | none => match P.funcs[g]? with
      | none => none
      | some fn => match fn.body with
        | none => none
        | some c => bodyF P ih L (!ex.contains g) args st fn (args.length + (fn.ntmps - args.length)) c) n

theorem body_sound {P : Program} {call : CallA} (ok : ProgOk P) (ih : CallOk P call) {L : Nat} {g : FuncId} {fn : Func} {c : Code} (hfn : P.funcs[g]? = some fn) (hbody : fn.body = some c) {args : List AV} {st st' : St} {v : AV} {ex : Ex} {t : List AV}
    (hex : ex = .normal ∨ ex = .ret) (hcode : codeA P call L c (args ++ padA (fn.ntmps - args.length)) st = some (ex, t, st')) (hres : resultA P st' t fn.results.toList = some v) :
    st.n ≤ st'.n ∧ ∀ (ρ : Rho) (h : Hp) (w : World) (vargs : List Value), HR ρ h w → Agree st h → Fresh ρ h st st' → Rels ρ args vargs → Calls P g vargs.toArray w (Answers P ρ h w st v st') := by
  have hR := code_sound ok ih L c (ok.draws g fn c hfn hbody)
  obtain ⟨n1, k1⟩ := hR _ _ _ _ _ hcode
  refine ⟨n1, fun ρ h w vargs hr ha hf hrel => ?_⟩
  have hlen := hrel.length
  refine calls_of_wp hfn hbody ?_
  have htr : TR ρ (args ++ padA (fn.ntmps - args.length)) (vargs.toArray ++ Array.replicate (fn.ntmps - vargs.toArray.size) undef) := by
    have := (hrel.append (pad_rel ρ (fn.ntmps - args.length))).tr
    rw [show (vargs ++ List.replicate (fn.ntmps - args.length) undef).toArray = vargs.toArray ++ Array.replicate (fn.ntmps - vargs.toArray.size) undef by
      rw [← hlen]; apply Array.ext'; simp] at this
    exact this
  refine k1 ρ h w { tmps := vargs.toArray ++ Array.replicate (fn.ntmps - vargs.toArray.size) undef, defers := [] } _ hr ha htr hf (fun ρ' w' a' hp ht hd => ?_)
  obtain ⟨u, hu1, hu2⟩ := result_sound (P := P) (fn := fn) hp.hr hp.agree ht hres
  rcases hex with rfl | rfl
  · exact ⟨hd, u, hu1, u, ρ', rfl, hp, hu2⟩
  · exact ⟨hd, u, hu1, u, ρ', rfl, hp, hu2⟩
theorem padA_length : ∀ n, (padA n).length = n
  | 0 => rfl
  | n + 1 => by simp [padA, padA_length n]
theorem bodyF_some {P : Program} {call : CallA} {L : Nat} {q : Bool} {args : List AV} {st st' : St} {fn : Func} {c : Code} {v : AV} (hq : q = true → quietC P c = true) (e : bodyF P call L q args st fn (args.length + (fn.ntmps - args.length)) c = some (v, st')) :
    ∃ ex t, (ex = .normal ∨ ex = .ret) ∧ codeA P call L c (args ++ padA (fn.ntmps - args.length)) st = some (ex, t, st') ∧ resultA P st' t fn.results.toList = some v := by
  unfold bodyF at e
  split at e
  · rename_i x t s hc
    have hn : (args ++ padA (fn.ntmps - args.length)).length = args.length + (fn.ntmps - args.length) := by simp [padA_length]
    obtain ⟨l', h1, h2, h3⟩ := sim_code c hq _ _ _ _ _ _ (Rt.start args _) hn hc
    have hr : res3 P s t fn = resultA P s l' fn.results.toList := by
      unfold res3 resultA
      rw [resEach_eq P s h2]
      rfl
    unfold resF2 at e
    split at e
    · cases e
    · rename_i hne
      rw [hr] at e
      cases hv : resultA P s l' fn.results.toList with
      | none => rw [hv] at e; cases e
      | some v0 =>
        rw [hv] at e
        cases e
        refine ⟨x, l', ?_, h1, hv⟩
        cases x with
        | normal => exact .inl rfl
        | ret => exact .inr rfl
        | exit id => exact absurd rfl (hne id)
  · cases e
theorem callF_sound {P : Program} (ok : ProgOk P) {ex : List FuncId} (hq : quietAllA P ex = true) {pr : FuncId → Option (List AV → St → Option (AV × St))} (hpr : PrimOk P pr) (L : Nat) : ∀ n, CallOk P (callF P ex pr L n)
  | 0 => ⟨fun g args st v st' e => (by cases e), fun g args st v st' e => (by cases e)⟩
  | n + 1 => by
    have ih := callF_sound ok hq hpr L n
    have key : ∀ g args st v st', callF P ex pr L (n + 1) g args st = some (v, st') → st.n ≤ st'.n ∧ ∀ (ρ : Rho) (h : Hp) (w : World) (vargs : List Value), HR ρ h w → Agree st h → Fresh ρ h st st' → Rels ρ args vargs →
        Calls P g vargs.toArray w (Answers P ρ h w st v st') := by
      intro g args st v st' e
      have e' : (match pr g with
        | some f => f args st
        | none => match P.funcs[g]? with
          | none => none
          | some fn => match fn.body with
            | none => none
            | some c => bodyF P (callF P ex pr L n) L (!ex.contains g) args st fn (args.length + (fn.ntmps - args.length)) c) = some (v, st') := e
      split at e'
      · rename_i f hf
        exact ⟨hpr.mono _ _ _ _ _ _ hf e', hpr.calls _ _ _ _ _ _ hf e'⟩
      · split at e'
        · cases e'
        · rename_i fn hfn
          split at e'
          · cases e'
          · rename_i c hbody
            obtain ⟨ex, t, h1, h2, h3⟩ := bodyF_some (fun hx => by
              have hg : g < P.funcs.size := (Array.getElem?_eq_some_iff.1 hfn).1
              have h0 := List.all_eq_true.1 hq g (List.mem_range.2 hg)
              unfold quietG at h0
              rw [hfn] at h0
              simp only [hbody] at h0
              cases hc : List.contains _ g with
              | true => rw [hc] at hx; cases hx
              | false => rw [hc] at h0; simpa using h0) e'
            exact body_sound ok ih hfn hbody h1 h2 h3
    exact ⟨fun g args st v st' e => (key g args st v st' e).1, fun g args st v st' e => (key g args st v st' e).2⟩

/- ### What is handed in -/
noncomputable def saysF (P : Program) (ex : List FuncId) (pr : FuncId → Option (List AV → St → Option (AV × St))) (L n : Nat) (g : FuncId) (args : List AV) : Bool :=
  match callF P ex pr L n g args empty with
  | some (.bool b, _) => b
  | _ => false
theorem saysF_sound {P : Program} (ok : ProgOk P) {ex : List FuncId} (hq : quietAllA P ex = true) {pr : FuncId → Option (List AV → St → Option (AV × St))} (hpr : PrimOk P pr) {L n : Nat} {g : FuncId} {args : List AV} {vargs : List Value} (h : saysF P ex pr L n g args = true) (hrel : Rels nowhere args vargs) (w : World) :
    Calls P g vargs.toArray w fun e w' => e = .returned (.bool true) ∧ Go.RowKit.Below w.heap.size w w' := by
  unfold saysF at h
  split at h
  · rename_i b st' hcall
    subst h
    have hc := (callF_sound ok hq hpr L n).calls g args empty _ _ hcall nowhere (fun _ => none) w vargs (empty_HR w) empty_Agree ⟨fun _ _ _ => rfl, fun _ _ e => absurd rfl e⟩ hrel
    refine hc.mono ?_
    rintro e w' ⟨u, ρ', rfl, hp, hv⟩
    simp only [Rel] at hv
    subst hv
    exact ⟨rfl, hp.below (fun B _ id o r e => by cases e)⟩
  · cases h
theorem saysF_cases {P : Program} (ok : ProgOk P) {ex : List FuncId} (hq : quietAllA P ex = true) {pr : FuncId → Option (List AV → St → Option (AV × St))} (hpr : PrimOk P pr) {L n : Nat} {g : FuncId} {ls : List (List AV)} {vargs : List Value} (h : allA ls (saysF P ex pr L n g) = true) (hc : CoverAll ls vargs) (w : World) :
    Calls P g vargs.toArray w fun e w' => e = .returned (.bool true) ∧ Go.RowKit.Below w.heap.size w w' := by
  obtain ⟨args, h1, h2⟩ := allA_some h hc
  exact saysF_sound ok hq hpr h2 h1 w
/-- Functions without arguments that are known to come to true, by the faster form. -/
theorem truePrimF_ok {P : Program} (ok : ProgOk P) {ex : List FuncId} (hq : quietAllA P ex = true) {gs : List FuncId} (h : ∀ g ∈ gs, ∃ pr L n, PrimOk P pr ∧ saysF P ex pr L n g [] = true) : PrimOk P (truePrim gs) :=
  truePrim_of ok fun g hg w => by
    obtain ⟨pr, L, n, hpr, hs⟩ := h g hg
    exact saysF_sound ok hq hpr hs Rels.nil w
end Go.Den
