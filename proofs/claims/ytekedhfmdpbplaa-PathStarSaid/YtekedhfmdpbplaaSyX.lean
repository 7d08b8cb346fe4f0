/- What is asked of a program, as closed facts. -/
import Derived.Test.YtekedhfmdpbplaaSyV
import Derived.Laws.Externs
import Derived.KernelRfl
set_option linter.unusedSimpArgs false
set_option linter.unusedVariables false
namespace Go.Sy
open Go

def namesOkA (P : Program) : Bool := P.funcs.toList.all fun fn => fn.body.isNone || !(fn.name == "runtime.NumGoroutine")
def drawsAllA (P : Program) : Bool := P.funcs.toList.all fun fn => match fn.body with | some c => drawsOkA P c | none => true
def extsOkA (P : Program) : Bool := P.funcs.toList.all fun fn => fn.body.isSome || !(fn.name == "math/bits.Add64" || fn.name == "math/bits.Sub64") || (fn.origin == "")

theorem next_add : Extern.allNextRows.lookup "math/bits.Add64" = none := by kernel_rfl
theorem next_sub : Extern.allNextRows.lookup "math/bits.Sub64" = none := by kernel_rfl
theorem next_nil : Extern.allNextRows.lookup "" = none := by kernel_rfl
theorem gen_add : Extern.allGenericRows.lookup "math/bits.Add64" = none := by kernel_rfl
theorem gen_sub : Extern.allGenericRows.lookup "math/bits.Sub64" = none := by kernel_rfl
theorem typ_add : Extern.allTypedRows.lookup "math/bits.Add64" = none := by kernel_rfl
theorem typ_sub : Extern.allTypedRows.lookup "math/bits.Sub64" = none := by kernel_rfl
def addRow : Array Value → Sem Value := fun args => do
  let (x, y, c) ← Extern.MathBitsCarry.three "Add64" args
  pure (Extern.MathBitsCarry.pair ((x + y + c) % Extern.MathBitsCarry.m64) ((x + y + c) / Extern.MathBitsCarry.m64))
def subRow : Array Value → Sem Value := fun args => do
  let (x, y, b) ← Extern.MathBitsCarry.three "Sub64" args
  pure (Extern.MathBitsCarry.pair ((x + Extern.MathBitsCarry.m64 - y - b) % Extern.MathBitsCarry.m64) (if x < y + b then 1 else 0))
theorem row_add : Extern.allRows.lookup "math/bits.Add64" = some addRow := by kernel_rfl
theorem row_sub : Extern.allRows.lookup "math/bits.Sub64" = some subRow := by kernel_rfl

theorem run_addRow {P : Program} (x y c : Int) (hc : c = 0 ∨ c = 1) (w : World) : (addRow #[.int .u64 x, .int .u64 y, .int .u64 c]).run P w =
    .ok (.tuple #[.int .u64 (((x.toNat + y.toNat + c.toNat) % 18446744073709551616 : Nat) : Int), .int .u64 (((x.toNat + y.toNat + c.toNat) / 18446744073709551616 : Nat) : Int)]) w := by
  rcases hc with rfl | rfl <;> rfl
theorem run_subRow {P : Program} (x y c : Int) (hc : c = 0 ∨ c = 1) (w : World) : (subRow #[.int .u64 x, .int .u64 y, .int .u64 c]).run P w =
    .ok (Extern.MathBitsCarry.pair ((x.toNat + 18446744073709551616 - y.toNat - c.toNat) % 18446744073709551616) (if x.toNat < y.toNat + c.toNat then 1 else 0)) w := by
  rcases hc with rfl | rfl <;> rfl
theorem name_ne (fn : Func) (h : fn.name = "math/bits.Add64" ∨ fn.name = "math/bits.Sub64") : (fn.name == "runtime.NumGoroutine") = false := by
  rcases h with h | h <;> rw [h] <;> decide

theorem progOk_of {P : Program} (h1 : P.follows .mixedOrders = true) (h2 : namesOkA P = true) (h3 : drawsAllA P = true) (h4 : extsOkA P = true) : ProgOk P where
  orders := h1
  names := fun g fn hfn hb => by
    have := List.all_eq_true.1 h2 fn (by rw [Array.mem_toList_iff]; exact Array.mem_of_getElem? hfn)
    cases hbd : fn.body with
    | none => exact absurd hbd hb
    | some c =>
      rw [hbd] at this
      simpa using this
  draws := fun g fn c hfn hb => by
    have := List.all_eq_true.1 h3 fn (by rw [Array.mem_toList_iff]; exact Array.mem_of_getElem? hfn)
    rw [hb] at this
    exact this
  ext := fun g fn ρ args vargs v hfn hb he hg hrel w => by
    have horig := List.all_eq_true.1 h4 fn (by rw [Array.mem_toList_iff]; exact Array.mem_of_getElem? hfn)
    rw [hb] at horig
    unfold externA at he
    split at he
    · rename_i x y c
      simp only [Rels, Rel] at hrel
      obtain ⟨_, _, rfl, rfl, _, _, rfl, rfl, _, _, rfl, rfl, rfl⟩ := hrel
      simp only [externG, Bool.and_eq_true, decide_eq_true_eq] at hg
      split at he
      · rename_i hn
        cases he
        have hn' : fn.name = "math/bits.Add64" := by simpa using hn
        have ho : fn.origin = "" := by
          rw [hn'] at horig
          simpa using horig
        have f1 : Extern.findNext fn = none := by simp [Extern.findNext, hn', ho, next_add, next_nil]
        have f2 : Extern.find fn = some addRow := by simp [Extern.find, hn', gen_add, typ_add, row_add]
        rw [run_callFunc_extern hfn (name_ne fn (.inl hn')) (by rw [hb]; rfl) f1 f2, run_addRow x y c (by omega)]
        exact ⟨_, rfl, by simp only [Rel]; exact ⟨_, rfl, Rels.cons (by simp [Rel]) (Rels.cons (by simp [Rel]) Rels.nil)⟩⟩
      · split at he
        · rename_i hn
          cases he
          have hn' : fn.name = "math/bits.Sub64" := by simpa using hn
          have ho : fn.origin = "" := by
            rw [hn'] at horig
            simpa using horig
          have f1 : Extern.findNext fn = none := by simp [Extern.findNext, hn', ho, next_sub, next_nil]
          have f2 : Extern.find fn = some subRow := by simp [Extern.find, hn', gen_sub, typ_sub, row_sub]
          rw [run_callFunc_extern hfn (name_ne fn (.inr hn')) (by rw [hb]; rfl) f1 f2, run_subRow x y c (by omega)]
          refine ⟨_, rfl, ?_⟩
          simp only [Rel, Extern.MathBitsCarry.pair]
          refine ⟨_, rfl, Rels.cons (by simp [Rel]) (Rels.cons ?_ Rels.nil)⟩
          simp only [Rel, Value.int.injEq, true_and, cond_eq_ite, Nat.blt_eq]
          split <;> rfl
        · cases he
    · cases he
end Go.Sy

/- What proofs about functions lean on. -/
set_option linter.unusedSimpArgs false
set_option linter.unusedVariables false
namespace Go.Sy
open Go

theorem br_iff {p : Prop} [Decidable p] {x y : Prop} : br (decide p) x y ↔ (p → x) ∧ (¬ p → y) := by
  by_cases h : p <;> simp [h, br]
theorem br_mk {b : Bool} {x y : Prop} (h1 : b = true → x) (h2 : b = false → y) : br b x y := by
  cases b
  · exact h2 rfl
  · exact h1 rfl
theorem br_t {b : Bool} {x y : Prop} (h : b = true) (hx : x) : br b x y := by subst h; exact hx
theorem ok_run {g : Bool} {v : AV} {s : St} {tch : List Nat} {r : AV × St × List Nat} (e : (RT.ok g v s tch).run = some r) : g = true ∧ r = (v, s, tch) := by
  cases g
  · cases e
  · exact ⟨rfl, by cases e; rfl⟩

theorem wrap64 {x : Int} (h1 : -9223372036854775808 ≤ x) (h2 : x ≤ 9223372036854775807) : IntKind.i64.wrap x = x := by
  simp only [IntKind.wrap, IntKind.bits, IntKind.signed]
  simp
  omega
theorem take_one {l : List D} {i : Nat} (h : i < l.length) : l.take (i + 1) = l.take i ++ [l.getD i .nul] := by
  rw [List.take_add_one, List.getD, List.getElem?_eq_getElem h]; rfl
theorem take_all (l : List D) : List.take l.length (List.drop 0 l) = l := by simp
def padAny : Nat → List AV
  | 0 => []
  | n + 1 => .any :: padAny n
section
variable {P : Program}
/-- The outcome of a loop, told of its head. -/
def headG (n : Nat) (ks : List Keep) (G : LoopS) : LoopS := fun t s k => headK n ks (fun t' s' => G t' s' k) t s
/-- The outcome of a loop that has a relation with a measure. -/
def byM (M : Nat → List AV → St → KS → Prop) : LoopS := fun t s k => ∃ m, M m t s k
/-- What comes behind a block or a region of code, by its number. -/
def contC (P : Program) (call : CallS) (lp : Nat → Option LoopS) (L id : Nat) : Code → KS → Option KS
  | .seq a b, k => match contC P call lp L id a (fun e t' s' => match e with
      | .normal => codeK P call lp L b t' s' k
      | e => k e t' s') with
    | some x => some x
    | none => contC P call lp L id b k
  | .cond _ a b, k => match contC P call lp L id a k with
    | some x => some x
    | none => contC P call lp L id b k
  | .region j _ _, k => match Nat.beq (2 * j + 1) id with
    | true => some k
    | false => none
  | .block j c, k => match Nat.beq (2 * j) id with
    | true => some k
    | false => contC P call lp L id c (fun e t' s' => match e with
      | .exit i => match Nat.beq i j with
        | true => k .normal t' s'
        | false => k (.exit i) t' s'
      | e => k e t' s')
  | _, _ => none
def noK : KS := fun _ _ _ => False
/-- Behind a block or a region of a function. -/
def contBk (P : Program) (pr : FuncId → Option Spec) (lp : Nat → Option LoopS) (L : Nat) (g : FuncId) (ms : List Mode) (s : St) (id : Nat) (k : AV → St → Prop) : KS :=
  match P.funcs[g]? with
  | none => noK
  | some fn => match fn.body with
    | none => noK
    | some c => match contC P (callS pr) lp L id c (fun e t s' => match e with
      | .exit _ => False
      | _ => match resultS P s' t fn.results.toList with
        | some v => match finishS s.length ms v s' with
          | some (g, v', s'') => match g with
            | true => fAV2 v' fun v' => fSt s'' fun s'' => k v' s''
            | false => False
          | none => False
        | none => False) with
      | some x => x
      | none => noK
/-- Behind a block or a region of a loop's round. -/
def contRk (P : Program) (pr : FuncId → Option Spec) (lp : Nat → Option LoopS) (L : Nat) (g : FuncId) (outer id : Nat) (k : KS) : KS :=
  match loopOf P g outer with
  | some c => match contC P (callS pr) lp L id c k with
    | some x => x
    | none => noK
  | none => noK
/-- Behind a loop in a function; in a loop's round; behind a region. -/
def contB (P : Program) (pr : FuncId → Option Spec) (lp : Nat → Option LoopS) (L : Nat) (g : FuncId) (ms : List Mode) (s : St) (id : Nat) (k : AV → St → Prop) : KS := contBk P pr lp L g ms s (2 * id) k
def contR (P : Program) (pr : FuncId → Option Spec) (lp : Nat → Option LoopS) (L : Nat) (g : FuncId) (outer id : Nat) (k : KS) : KS := contRk P pr lp L g outer (2 * id) k
def cutB (P : Program) (pr : FuncId → Option Spec) (lp : Nat → Option LoopS) (L : Nat) (g : FuncId) (ms : List Mode) (s : St) (id : Nat) (k : AV → St → Prop) : KS := contBk P pr lp L g ms s (2 * id + 1) k
def cutR (P : Program) (pr : FuncId → Option Spec) (lp : Nat → Option LoopS) (L : Nat) (g : FuncId) (outer id : Nat) (k : KS) : KS := contRk P pr lp L g outer (2 * id + 1) k
def addC (id : Nat) (F : LoopS) (lp : Nat → Option LoopS) : Nat → Option LoopS := fun j => match Nat.beq (2 * id + 1) j with
  | true => some F
  | false => lp j
def addL (id : Nat) (F : LoopS) (lp : Nat → Option LoopS) : Nat → Option LoopS := fun j => match Nat.beq (2 * id) j with
  | true => some F
  | false => lp j
def noL : Nat → Option LoopS := fun _ => none
theorem loops_none {g : FuncId} {n : Nat} : LoopsFor P g n noL := noLoops
theorem loops_add (ok : ProgOk P) {pr : FuncId → Option Spec} (hpr : PrOk P pr) {g : FuncId} {id n L : Nat} {lp : Nat → Option LoopS} (hdist : distinctOk P g = true) (hlp : LoopsFor P g n lp) {ks kh kx : List Keep} {M : Nat → List AV → St → KS → Prop}
    (step : ∀ m t s k, M m t s k → roundK P pr lp L g id t s (againK n id ks kx (fun t' s' => ∃ m', m' < m ∧ M m' t' s' k) k)) : LoopsFor P g n (addL id (headG n kh (byM M)) lp) := by
  intro j F hF c hc t s k hn h
  unfold addL at hF
  split at hF
  · rename_i hj
    have hj := beq_true_eq hj
    subst hj
    cases hF
    obtain ⟨t', s', h1, m, h2⟩ := headK_some h
    obtain ⟨h3, h4⟩ := head_sound h1 hn
    exact RK.pre h3 h4 (loop_RK ok hpr hdist hlp step m c t' s' k hc h3 h2)
  · exact hlp j F hF c hc t s k hn h

/-- The outcome of a region, told of its entry. -/
theorem cuts_add (ok : ProgOk P) {pr : FuncId → Option Spec} (hpr : PrOk P pr) {g : FuncId} {id n : Nat} {lp : Nat → Option LoopS} (hlp : LoopsFor P g n lp) {ks kh : List Keep} {M : List AV → St → KS → Prop}
    (step : ∀ t s k, M t s k → cutK P pr g id t s (headK n ks (k .normal))) : LoopsFor P g n (addC id (headG n kh M) lp) := by
  intro j F hF c hc t s k hn h
  unfold addC at hF
  split at hF
  · rename_i hj
    have hj := beq_true_eq hj
    subst hj
    cases hF
    obtain ⟨t', s', h1, h2⟩ := headK_some h
    obtain ⟨h3, h4⟩ := head_sound h1 hn
    exact RK.pre h3 h4 (cut_RK ok hpr step c t' s' k hc h3 h2)
  · exact hlp j F hF c hc t s k hn h
def noF : LoopS := fun _ _ _ => False
/-- A loop that is not come to. -/
theorem loops_false {g : FuncId} {n id : Nat} {lp : Nat → Option LoopS} (h : LoopsFor P g n lp) : LoopsFor P g n (addL id noF lp) := by
  intro j F hF c hc t s k hn hk
  unfold addL at hF
  split at hF
  · cases hF; exact hk.elim
  · exact h j F hF c hc t s k hn hk
/-- What a call comes to. -/
def Comes (P : Program) (g : FuncId) (args : List AV) (s : St) (v : AV) (s' : St) : Prop := s.length ≤ s'.length ∧ ∀ ρ w vargs, InvC ρ s w → Rels ρ args vargs →
    Calls P g vargs.toArray w fun e w' => ∃ u ρ', e = .returned u ∧ PostC s.length ρ s w ρ' s' w' ∧ Rel ρ' v u
theorem specOk_comes {g : FuncId} {f : List AV → St → RT} (h : ∀ args s v s' tch, (f args s).run = some (v, s', tch) → Comes P g args s v s') : SpecOk P g f where
  len := fun args s v s' tch e => (h args s v s' tch e).1
  calls := fun args s v s' tch e => (h args s v s' tch e).2
theorem comes_of (ok : ProgOk P) {pr : FuncId → Option Spec} (hpr : PrOk P pr) {g : FuncId} {lp : Nat → Option LoopS} {L : Nat} {ms : List Mode} {args : List AV} {s s' : St} {v : AV} (hdist : distinctOk P g = true) (hlp : LoopsFor P g s.length lp)
    (h : bodyK P pr lp L g ms args s (fun v1 s1 => v1 = v ∧ s1 = s')) : Comes P g args s v s' := by
  obtain ⟨v1, s1, h1, ⟨rfl, rfl⟩, h2⟩ := body_calls ok hpr hdist hlp h
  exact ⟨h1, h2⟩
/-- A slice of data that may be nil. -/
theorem comes_fz {g : FuncId} {e : Sh} {l : List D} {s s' : St} {v : AV} : ∀ (pre post : List AV), Comes P g (pre ++ .fz true e l :: post) s v s' → (l = [] → Comes P g (pre ++ .nilSl :: post) s v s') → Comes P g (pre ++ .fz false e l :: post) s v s' := by
  intro pre post h1 h2
  refine ⟨h1.1, fun ρ w vargs hi hr => ?_⟩
  have split : ∀ (pre : List AV) (vargs : List Value), Rels ρ (pre ++ .fz false e l :: post) vargs → Rels ρ (pre ++ .fz true e l :: post) vargs ∨ (l = [] ∧ Rels ρ (pre ++ .nilSl :: post) vargs) := by
    intro pre
    induction pre with
    | nil =>
      intro vargs hr
      simp only [List.nil_append, Rels, Rel] at hr ⊢
      obtain ⟨u, us, rfl, hu, hus⟩ := hr
      rcases hu with ⟨_, hl, hu⟩ | hu
      · exact .inr ⟨hl, u, us, rfl, hu, hus⟩
      · exact .inl ⟨u, us, rfl, .inr hu, hus⟩
    | cons a pre ih =>
      intro vargs hr
      simp only [List.cons_append, Rels] at hr ⊢
      obtain ⟨u, us, rfl, hu, hus⟩ := hr
      rcases ih us hus with h | ⟨hl, h⟩
      · exact .inl ⟨u, us, rfl, hu, h⟩
      · exact .inr ⟨hl, u, us, rfl, hu, h⟩
  rcases split pre vargs hr with h | ⟨hl, h⟩
  · exact h1.2 ρ w vargs hi h
  · exact (h2 hl).2 ρ w vargs hi h
/-- Nil in place of an empty slice of its own. -/
theorem comes_nil {g : FuncId} {e : Sh} {args : List AV} {s s' : St} (h : Comes P g args s .nilSl s') : Comes P g args s (.tsl false e s'.length 0 0 .tight) (s' ++ [.tbl false e []]) := by
  refine ⟨by have := h.1; rw [List.length_append]; omega, fun ρ w vargs hi hr => (h.2 ρ w vargs hi hr).mono ?_⟩
  rintro x w' ⟨u, ρ', rfl, hp, hu⟩
  simp only [Rel] at hu
  subst hu
  have hq := fork_nil (x := .tbl false e []) hp.inv.hr (hpS_agree s') Kept.self hp.inv.fresh (by simp [Ent.view, flat])
  refine ⟨_, _, rfl, hp.trans (hq.toC hp.inv h.1), ?_⟩
  simp only [Rel]
  exact ⟨0, 0, 0, Rho.put_same _ _ _, .inl (by simp [Cap.top])⟩
/-- Nil as data. -/
theorem comes_nil_fz {g : FuncId} {e : Sh} {args : List AV} {s s' : St} (h : Comes P g args s .nilSl s') : Comes P g args s (.fz false e []) s' := by
  refine ⟨h.1, fun ρ w vargs hi hr => (h.2 ρ w vargs hi hr).mono ?_⟩
  rintro x w' ⟨u, ρ', rfl, hp, hu⟩
  exact ⟨u, ρ', rfl, hp, by simp only [Rel] at hu ⊢; exact .inl ⟨rfl, rfl, hu⟩⟩
/-- A function that is known to be not nil may be: less is told of a result. -/
theorem comes_weak {g : FuncId} {e : Sh} {args : List AV} {s s' : St} {b off len : Nat} {cap : Cap} (h : Comes P g args s (.tsl true e b off len cap) s') : Comes P g args s (.tsl false e b off len cap) s' := by
  refine ⟨h.1, fun ρ w vargs hi hr => (h.2 ρ w vargs hi hr).mono ?_⟩
  rintro x w' ⟨u, ρ', rfl, hp, hu⟩
  refine ⟨u, ρ', rfl, hp, ?_⟩
  simp only [Rel] at hu ⊢
  obtain ⟨B, o, r, h1, ⟨h2, _⟩ | h2⟩ := hu
  · cases h2
  · exact ⟨B, o, r, h1, .inr h2⟩
def addP (g : FuncId) (sp : Spec) (pr : FuncId → Option Spec) : FuncId → Option Spec := fun j => match Nat.beq g j with
  | true => some sp
  | false => pr j
def noP : FuncId → Option Spec := fun _ => none
theorem prOk_none : PrOk P noP := fun g sp h => by cases h
theorem prOk_add {g : FuncId} {sp : Spec} {pr : FuncId → Option Spec} (h : SpecOk P g sp.f) (hp : PrOk P pr) : PrOk P (addP g sp pr) := by
  intro j sp' e
  unfold addP at e
  split at e
  · rename_i hj
    have hj := beq_true_eq hj
    subst hj
    cases e
    exact h
  · exact hp j sp' e
end
attribute [irreducible] contB contR cutB cutR
end Go.Sy
