/- The faster form of code and calls comes to what the abstract machine comes to. -/
import Derived.Test.YtekedhfmdpbplaaDenW
set_option linter.unusedSimpArgs false
set_option linter.unusedVariables false
namespace Go.Den
open Go

/-- What the faster form comes to, the abstract machine comes to. -/
def Sim (n : Nat) (F : T → St → OutF) (f : List AV → St → OutA) : Prop :=
  ∀ (t t' : T) (l : List AV) (s s' : St) (x : Ex), Rt t l → l.length = n → F t s = some (x, t', s') → ∃ l', f l s = some (x, l', s') ∧ Rt t' l' ∧ l'.length = n

theorem sim_loop {n : Nat} {F : T → St → OutF} {f : List AV → St → OutA} (h : Sim n F f) : ∀ k, Sim n (loopF F k) (loopA f k)
  | 0 => fun t t' l s s' x _ _ e => by cases e
  | k + 1 => fun t t' l s s' x hr hn e => by
    have e' : (match F t s with
      | some (.normal, t', s') => loopF F k t' s'
      | r => r) = some (x, t', s') := e
    simp only [loopA]
    cases hf : F t s with
    | none => rw [hf] at e'; cases e'
    | some y =>
      obtain ⟨x1, t1, s1⟩ := y
      obtain ⟨l1, h1, h2, h3⟩ := h t t1 l s s1 x1 hr hn hf
      rw [hf] at e'
      rw [h1]
      cases x1 with
      | normal => exact sim_loop h k t1 t' l1 s1 s' x h2 h3 e'
      | exit id => cases e'; exact ⟨l1, rfl, h2, h3⟩
      | ret => cases e'; exact ⟨l1, rfl, h2, h3⟩

theorem sim_code {P : Program} {call : CallA} {L n : Nat} {q : Bool} : ∀ (c : Code), (q = true → quietC P c = true) → Sim n (codeF P call L n q c) (codeA P call L c)
  | .skip, hq => fun t t' l s s' x hr hn e => by
    have e' : some (Ex.normal, t, s) = some (x, t', s') := e
    cases e'; exact ⟨l, rfl, hr, hn⟩
  | .label i, hq => fun t t' l s s' x hr hn e => by
    have e' : some (Ex.normal, t, s) = some (x, t', s') := e
    cases e'; exact ⟨l, rfl, hr, hn⟩
  | .exit id, hq => fun t t' l s s' x hr hn e => by
    have e' : some (Ex.exit id, t, s) = some (x, t', s') := e
    cases e'; exact ⟨l, rfl, hr, hn⟩
  | .ret, hq => fun t t' l s s' x hr hn e => by
    have e' : some (Ex.ret, t, s) = some (x, t', s') := e
    cases e'; exact ⟨l, rfl, hr, hn⟩
  | .goto _, hq => fun t t' l s s' x hr hn e => by
    have e' : none = some (x, t', s') := e
    cases e'
  | .refuse _, hq => fun t t' l s s' x hr hn e => by
    have e' : none = some (x, t', s') := e
    cases e'
  | .scope _, hq => fun t t' l s s' x hr hn e => by
    have e' : none = some (x, t', s') := e
    cases e'
  | .rangeFunc _ _ _ _, hq => fun t t' l s s' x hr hn e => by
    have e' : none = some (x, t', s') := e
    cases e'
  | .region id ops draw, hq => fun t t' l s s' x hr hn e => by
    have e' : outF (regionF P call n q ops draw t s) = some (x, t', s') := e
    cases hf : regionF P call n q ops draw t s with
    | none => rw [hf] at e'; cases e'
    | some y =>
      obtain ⟨t1, s1⟩ := y
      rw [hf] at e'
      cases e'
      obtain ⟨l1, h1, h2, h3⟩ := regionF_some (fun e => by have := hq e; simpa [quietC] using this) hr hn hf
      exact ⟨l1, by simp only [codeA, h1], h2, h3⟩
  | .seq a b, hq => fun t t' l s s' x hr hn e => by
    have e' : seqF (codeF P call L n q a t s) (codeF P call L n q b) = some (x, t', s') := e
    cases hf : codeF P call L n q a t s with
    | none => rw [hf] at e'; cases e'
    | some y =>
      obtain ⟨x1, t1, s1⟩ := y
      obtain ⟨l1, h1, h2, h3⟩ := sim_code a (fun e => by have := hq e; simp only [quietC, Bool.and_eq_true] at this; exact this.1) t t1 l s s1 x1 hr hn hf
      rw [hf] at e'
      simp only [codeA, h1]
      cases x1 with
      | normal => exact sim_code b (fun e => by have := hq e; simp only [quietC, Bool.and_eq_true] at this; exact this.2) t1 t' l1 s1 s' x h2 h3 e'
      | exit id => cases e'; exact ⟨l1, rfl, h2, h3⟩
      | ret => cases e'; exact ⟨l1, rfl, h2, h3⟩
  | .cond c a b, hq => fun t t' l s s' x hr hn e => by
    have e' : condF (evF t c) (codeF P call L n q a t s) (codeF P call L n q b t s) = some (x, t', s') := e
    rw [evF_eq hr] at e'
    simp only [codeA]
    unfold condF at e'
    split at e'
    · rename_i hc
      rw [hc]
      exact sim_code a (fun e => by have := hq e; simp only [quietC, Bool.and_eq_true] at this; exact this.1) t t' l s s' x hr hn e'
    · rename_i hc
      rw [hc]
      exact sim_code b (fun e => by have := hq e; simp only [quietC, Bool.and_eq_true] at this; exact this.2) t t' l s s' x hr hn e'
    · cases e'
  | .block id c, hq => fun t t' l s s' x hr hn e => by
    have e' : blockF id (codeF P call L n q c t s) = some (x, t', s') := e
    cases hf : codeF P call L n q c t s with
    | none => rw [hf] at e'; cases e'
    | some y =>
      obtain ⟨x1, t1, s1⟩ := y
      obtain ⟨l1, h1, h2, h3⟩ := sim_code c (fun e => by have := hq e; simpa only [quietC] using this) t t1 l s s1 x1 hr hn hf
      rw [hf] at e'
      simp only [codeA, h1]
      cases x1 with
      | normal => cases e'; exact ⟨l1, rfl, h2, h3⟩
      | exit j =>
        simp only [blockF] at e'
        simp only
        cases hj : Nat.beq j id with
        | true => rw [hj] at e'; cases e'; exact ⟨l1, rfl, h2, h3⟩
        | false => rw [hj] at e'; cases e'; exact ⟨l1, rfl, h2, h3⟩
      | ret => cases e'; exact ⟨l1, rfl, h2, h3⟩
  | .loop c, hq => fun t t' l s s' x hr hn e => by
    have e' : loopF (codeF P call L n q c) L t s = some (x, t', s') := e
    simp only [codeA]
    exact sim_loop (sim_code c (fun e => by have := hq e; simpa only [quietC] using this)) L t t' l s s' x hr hn e'

noncomputable def resEach (P : Program) (st : St) (t : T) : List ResultVar → Option (List AV)
  | [] => some []
  | .tmp i :: rs => match resEach P st t rs with
    | some l => some (t.get (path i) :: l)
    | none => none
  | .cell a ty :: rs => match load1 P ty (some (t.get (path a))) with
    | some (b, off, n, mk) => match st.readX b off n with
      | some l => match madeA mk l with
        | some v => match resEach P st t rs with
          | some l => some (v :: l)
          | none => none
        | none => none
      | none => none
    | none => none
theorem resEach_eq (P : Program) (st : St) {t : T} {l : List AV} (h : Rt t l) : ∀ rs, resEach P st t rs = resA P st l rs
  | [] => rfl
  | .tmp i :: rs => by
    simp only [resEach, resA, resEach_eq P st h rs, h i]
    rfl
  | .cell a ty :: rs => by
    simp only [resEach, resA, resEach_eq P st h rs, h a, St.readX_eq]
    rfl
noncomputable def res3 (P : Program) (st : St) (t : T) (fn : Func) : Option AV :=
  match resEach P st t fn.results.toList with
  | some [v] => some v
  | some l => some (.tup l)
  | none => none
noncomputable def resF2 (P : Program) (st : St) (t : T) (fn : Func) (x : Ex) : Option (AV × St) :=
  match x with
  | .exit _ => none
  | _ => ret1 st (res3 P st t fn)
noncomputable def bodyF (P : Program) (call : CallA) (L : Nat) (q : Bool) (args : List AV) (st : St) (fn : Func) (n : Nat) (c : Code) : Option (AV × St) :=
  match codeF P call L n q c (T.ofL args 0 .leaf) st with
  | some (x, t, s) => resF2 P s t fn x
  | none => none
/-- A call, in the faster form. -/
noncomputable def callF (P : Program) (ex : List FuncId) (pr : FuncId → Option (List AV → St → Option (AV × St))) (L n : Nat) : CallA :=
  Nat.rec (motive := fun _ => CallA) (fun _ _ _ => none) (fun _ ih g args st =>
    match pr g with
    | some f => f args st
    | none => match P.funcs[g]? with
      | none => none
      | some fn => match fn.body with
        | none => none
        | some c => bodyF P ih L (!ex.contains g) args st fn (args.length + (fn.ntmps - args.length)) c) n

theorem body_sound {P : Program} {call : CallA} (ok : ProgOk P) (ih : CallOk P call) {L : Nat} {g : FuncId} {fn : Func} {c : Code} (hfn : P.funcs[g]? = some fn) (hbody : fn.body = some c) {args : List AV} {st st' : St} {v : AV} {ex : Ex} {t : List AV}
    (hex : ex = .normal ∨ ex = .ret) (hcode : codeA P call L c (args ++ padA (fn.ntmps - args.length)) st = some (ex, t, st')) (hres : resultA P st' t fn.results.toList = some v) :
    st.n ≤ st'.n ∧ ∀ (ρ : Rho) (h : Hp) (w : World) (vargs : List Value), HR ρ h w → Agree st h → Fresh ρ h st st' → Rels ρ args vargs → Calls P g vargs.toArray w (Answers P ρ h w st v st') := by
  have hR := code_sound ok ih L c (ok.draws g fn c hfn hbody)
  obtain ⟨n1, k1⟩ := hR _ _ _ _ _ hcode
  refine ⟨n1, fun ρ h w vargs hr ha hf hrel => ?_⟩
  have hlen := hrel.length
  refine calls_of_wp hfn hbody ?_
  have htr : TR ρ (args ++ padA (fn.ntmps - args.length)) (vargs.toArray ++ Array.replicate (fn.ntmps - vargs.toArray.size) undef) := by
    have := (hrel.append (pad_rel ρ (fn.ntmps - args.length))).tr
    rw [show (vargs ++ List.replicate (fn.ntmps - args.length) undef).toArray = vargs.toArray ++ Array.replicate (fn.ntmps - vargs.toArray.size) undef by
      rw [← hlen]; apply Array.ext'; simp] at this
    exact this
  refine k1 ρ h w { tmps := vargs.toArray ++ Array.replicate (fn.ntmps - vargs.toArray.size) undef, defers := [] } _ hr ha htr hf (fun ρ' w' a' hp ht hd => ?_)
  obtain ⟨u, hu1, hu2⟩ := result_sound (P := P) (fn := fn) hp.hr hp.agree ht hres
  rcases hex with rfl | rfl
  · exact ⟨hd, u, hu1, u, ρ', rfl, hp, hu2⟩
  · exact ⟨hd, u, hu1, u, ρ', rfl, hp, hu2⟩
theorem padA_length : ∀ n, (padA n).length = n
  | 0 => rfl
  | n + 1 => by simp [padA, padA_length n]
theorem bodyF_some {P : Program} {call : CallA} {L : Nat} {q : Bool} {args : List AV} {st st' : St} {fn : Func} {c : Code} {v : AV} (hq : q = true → quietC P c = true) (e : bodyF P call L q args st fn (args.length + (fn.ntmps - args.length)) c = some (v, st')) :
    ∃ ex t, (ex = .normal ∨ ex = .ret) ∧ codeA P call L c (args ++ padA (fn.ntmps - args.length)) st = some (ex, t, st') ∧ resultA P st' t fn.results.toList = some v := by
  unfold bodyF at e
  split at e
  · rename_i x t s hc
    have hn : (args ++ padA (fn.ntmps - args.length)).length = args.length + (fn.ntmps - args.length) := by simp [padA_length]
    obtain ⟨l', h1, h2, h3⟩ := sim_code c hq _ _ _ _ _ _ (Rt.start args _) hn hc
    have hr : res3 P s t fn = resultA P s l' fn.results.toList := by
      unfold res3 resultA
      rw [resEach_eq P s h2]
      rfl
    unfold resF2 at e
    split at e
    · cases e
    · rename_i hne
      rw [hr] at e
      cases hv : resultA P s l' fn.results.toList with
      | none => rw [hv] at e; cases e
      | some v0 =>
        rw [hv] at e
        cases e
        refine ⟨x, l', ?_, h1, hv⟩
        cases x with
        | normal => exact .inl rfl
        | ret => exact .inr rfl
        | exit id => exact absurd rfl (hne id)
  · cases e
theorem callF_sound {P : Program} (ok : ProgOk P) {ex : List FuncId} (hq : quietAllA P ex = true) {pr : FuncId → Option (List AV → St → Option (AV × St))} (hpr : PrimOk P pr) (L : Nat) : ∀ n, CallOk P (callF P ex pr L n)
  | 0 => ⟨fun g args st v st' e => (by cases e), fun g args st v st' e => (by cases e)⟩
  | n + 1 => by
    have ih := callF_sound ok hq hpr L n
    have key : ∀ g args st v st', callF P ex pr L (n + 1) g args st = some (v, st') → st.n ≤ st'.n ∧ ∀ (ρ : Rho) (h : Hp) (w : World) (vargs : List Value), HR ρ h w → Agree st h → Fresh ρ h st st' → Rels ρ args vargs →
        Calls P g vargs.toArray w (Answers P ρ h w st v st') := by
      intro g args st v st' e
      have e' : (match pr g with
        | some f => f args st
        | none => match P.funcs[g]? with
          | none => none
          | some fn => match fn.body with
            | none => none
            | some c => bodyF P (callF P ex pr L n) L (!ex.contains g) args st fn (args.length + (fn.ntmps - args.length)) c) = some (v, st') := e
      split at e'
      · rename_i f hf
        exact ⟨hpr.mono _ _ _ _ _ _ hf e', hpr.calls _ _ _ _ _ _ hf e'⟩
      · split at e'
        · cases e'
        · rename_i fn hfn
          split at e'
          · cases e'
          · rename_i c hbody
            obtain ⟨ex, t, h1, h2, h3⟩ := bodyF_some (fun hx => by
              have hg : g < P.funcs.size := (Array.getElem?_eq_some_iff.1 hfn).1
              have h0 := List.all_eq_true.1 hq g (List.mem_range.2 hg)
              unfold quietG at h0
              rw [hfn] at h0
              simp only [hbody] at h0
              cases hc : List.contains _ g with
              | true => rw [hc] at hx; cases hx
              | false => rw [hc] at h0; simpa using h0) e'
            exact body_sound ok ih hfn hbody h1 h2 h3
    exact ⟨fun g args st v st' e => (key g args st v st' e).1, fun g args st v st' e => (key g args st v st' e).2⟩

/- ### What is handed in -/
noncomputable def saysF (P : Program) (ex : List FuncId) (pr : FuncId → Option (List AV → St → Option (AV × St))) (L n : Nat) (g : FuncId) (args : List AV) : Bool :=
  match callF P ex pr L n g args empty with
  | some (.bool b, _) => b
  | _ => false
theorem saysF_sound {P : Program} (ok : ProgOk P) {ex : List FuncId} (hq : quietAllA P ex = true) {pr : FuncId → Option (List AV → St → Option (AV × St))} (hpr : PrimOk P pr) {L n : Nat} {g : FuncId} {args : List AV} {vargs : List Value} (h : saysF P ex pr L n g args = true) (hrel : Rels nowhere args vargs) (w : World) :
    Calls P g vargs.toArray w fun e w' => e = .returned (.bool true) ∧ Go.RowKit.Below w.heap.size w w' := by
  unfold saysF at h
  split at h
  · rename_i b st' hcall
    subst h
    have hc := (callF_sound ok hq hpr L n).calls g args empty _ _ hcall nowhere (fun _ => none) w vargs (empty_HR w) empty_Agree ⟨fun _ _ _ => rfl, fun _ _ e => absurd rfl e⟩ hrel
    refine hc.mono ?_
    rintro e w' ⟨u, ρ', rfl, hp, hv⟩
    simp only [Rel] at hv
    subst hv
    exact ⟨rfl, hp.below (fun B _ id o r e => by cases e)⟩
  · cases h
theorem saysF_cases {P : Program} (ok : ProgOk P) {ex : List FuncId} (hq : quietAllA P ex = true) {pr : FuncId → Option (List AV → St → Option (AV × St))} (hpr : PrimOk P pr) {L n : Nat} {g : FuncId} {ls : List (List AV)} {vargs : List Value} (h : allA ls (saysF P ex pr L n g) = true) (hc : CoverAll ls vargs) (w : World) :
    Calls P g vargs.toArray w fun e w' => e = .returned (.bool true) ∧ Go.RowKit.Below w.heap.size w w' := by
  obtain ⟨args, h1, h2⟩ := allA_some h hc
  exact saysF_sound ok hq hpr h2 h1 w
/-- Functions without arguments that are known to come to true, by the faster form. -/
theorem truePrimF_ok {P : Program} (ok : ProgOk P) {ex : List FuncId} (hq : quietAllA P ex = true) {gs : List FuncId} (h : ∀ g ∈ gs, ∃ pr L n, PrimOk P pr ∧ saysF P ex pr L n g [] = true) : PrimOk P (truePrim gs) :=
  truePrim_of ok fun g hg w => by
    obtain ⟨pr, L, n, hpr, hs⟩ := h g hg
    exact saysF_sound ok hq hpr hs Rels.nil w
end Go.Den
