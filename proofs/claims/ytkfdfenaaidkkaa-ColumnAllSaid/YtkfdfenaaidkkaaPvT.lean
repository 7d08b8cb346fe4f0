/- Plain: words in a column: one answer for all cases. -/
import Derived.Test.YtkfdfenaaidkkaaPvS
import Derived.Test.YtkfdfenaaidkkaaPvP
import Derived.Test.YtkfdfenaaidkkaaSyMove
set_option linter.unusedSimpArgs false
set_option linter.unusedVariables false
namespace Go.Sy
open Go
theorem comes_spec {P : Program} {g : FuncId} {f : List AV → St → RT} {args : List AV} {s s' : St} {v : AV} {tch : List Nat} (h : SpecOk P g f) (e : (f args s).run = some (v, s', tch)) : Comes P g args s v s' := ⟨h.len _ _ _ _ _ e, h.calls _ _ _ _ _ e⟩
def cS (g : Nat) (k : Int) (q : Bool) (z : Nat) (vl : List D) (u : Int) (l : List D) : St := c1S g k q z vl u false l.length l
def c2S (g : Nat) (k : Int) (q : Bool) (z : Nat) (vl : List D) (u : Int) (l : List D) : St :=
  [.cells [.int .i64 k, .tsl q shV 1 0 z .tight, .ptr (some (2, 0)), .int .i64 u], .tbl false shV vl, .cells [.fn (.func g) [] [], .tsl false shP 4 0 l.length .tight], .dead, .tbl false shP l]
def addCM (cmp : Nat) : Spec := ⟨[], fun args s => match args, s with
  | [.ptr (some (0, 2)), .str x], [.cells [.int .i64 k, .tsl q e1 1 0 z .tight, .ptr none, .int .i64 u], .tbl false e2 vl] => .ok (okC e1 e2 vl z) (.bool true) (cS cmp k q z vl u (addW [] x)) [0]
  | [.ptr (some (0, 2)), .str x], [.cells [.int .i64 k, .tsl q e1 1 0 z .tight, .ptr (some (2, 0)), .int .i64 u], .tbl false e2 vl, .cells [.fn (.func g) [] [], .tsl nn e 3 0 n .tight], .tbl false sh l] =>
    .ok (okC e1 e2 vl z && (Nat.beq g cmp && okM e sh l n)) (.bool (!hasB l x)) (c2S cmp k q z vl u (addW l x)) [0, 2, 3]
  | _, _ => .fail⟩
def takeCM (cmp : Nat) : Spec := ⟨[], fun args s => match args, s with
  | [.ptr (some (0, 2)), .str x], [.cells [.int .i64 k, .tsl q e1 1 0 z .tight, .ptr none, .int .i64 u], .tbl false e2 vl] => .ok (okC e1 e2 vl z) (.bool false) (cS cmp k q z vl u []) [0]
  | [.ptr (some (0, 2)), .str x], [.cells [.int .i64 k, .tsl q e1 1 0 z .tight, .ptr (some (2, 0)), .int .i64 u], .tbl false e2 vl, .cells [.fn (.func g) [] [], .tsl nn e 3 0 n .tight], .tbl false sh l] =>
    .ok (okC e1 e2 vl z && (Nat.beq g cmp && okM e sh l n)) (.bool (hasB l x)) (c2S cmp k q z vl u (takeW l x)) [0, 2, 3]
  | _, _ => .fail⟩
theorem addCM_ok {P : Program} {g cmp : Nat} (h : SpecOk P g (addCF cmp).f) : SpecOk P g (addCM cmp).f := specOk_comes fun args s v s' tch e => by
  simp only [addCM] at e
  split at e
  · rename_i x k q e1 z u e2 vl
    obtain ⟨hg, rfl, rfl, rfl⟩ := run_ok (g := _) e
    exact comes_weak_in (s' := c1S cmp k q z vl u true 1 (insK [] 0 x 1)) (i := 2) (pre := [.fn (.func cmp) [] []]) (post := []) rfl (comes_spec (tch := [0]) h (by simp only [addCF, RT.run, hg]))
  · rename_i x k q e1 z u e2 vl g nn e0 n sh l
    obtain ⟨hg, rfl, rfl, rfl⟩ := run_ok (g := _) e
    have hg' := hg
    simp only [Bool.and_eq_true, okM_iff, okC_iff] at hg
    obtain ⟨⟨rfl, rfl, hz, hzn⟩, h1, rfl, rfl, rfl, hn⟩ := hg
    cases hh : hasB l x with
    | true =>
      rw [addW_t hh]
      unfold c2S
      rw [setK_len]
      exact comes_move (s' := c1S cmp k q z vl u nn l.length (setK l (bs l x) (IntKind.i64.wrap (getK l x + 1)))) (i := 2) (b := 3) (pre := [.fn (.func cmp) [] []]) (post := []) (L := [0, 2, 3]) rfl rfl rfl (by simp) rfl (by simp)
        (comes_spec (tch := [0, 2, 3]) h (by simp only [addCF, RT.run, hh, hg']; rfl))
    | false =>
      rw [addW_f hh]
      unfold c2S
      rw [insK_len _ _ _ (bs_le l x)]
      exact comes_weak_in (s' := [.cells [.int .i64 k, .tsl q shV 1 0 z .tight, .ptr (some (2, 0)), .int .i64 u], .tbl false shV vl, .cells [.fn (.func cmp) [] [], .tsl true shP 4 0 (l.length + 1) .tight], .dead, .tbl false shP (insK l (bs l x) x 1)]) (i := 2) (pre := [.fn (.func cmp) [] []]) (post := []) rfl
        (comes_spec (tch := [0, 2, 3]) h (by simp only [addCF, RT.run, hh, hg']; rfl))
  · cases e
theorem takeW_t {l : List D} {k : List UInt8} (h : hasB l k = true) (h2 : decide (getK l k > 1) = true) : takeW l k = setK l (bs l k) (IntKind.i64.wrap (getK l k - 1)) := by simp only [takeW, h, h2]
theorem takeW_d {l : List D} {k : List UInt8} (h : hasB l k = true) (h2 : decide (getK l k > 1) = false) : takeW l k = delK l (bs l k) := by simp only [takeW, h, h2]
theorem takeW_f {l : List D} {k : List UInt8} (h : hasB l k = false) : takeW l k = l := by simp only [takeW, h]
theorem takeCM_ok {P : Program} {g cmp : Nat} (h : SpecOk P g (takeCF cmp).f) : SpecOk P g (takeCM cmp).f := specOk_comes fun args s v s' tch e => by
  simp only [takeCM] at e
  split at e
  · rename_i x k q e1 z u e2 vl
    obtain ⟨hg, rfl, rfl, rfl⟩ := run_ok (g := _) e
    exact comes_spec (tch := [0]) h (by simp only [takeCF, RT.run, hg]; rfl)
  · rename_i x k q e1 z u e2 vl g nn e0 n sh l
    obtain ⟨hg, rfl, rfl, rfl⟩ := run_ok (g := _) e
    have hg' := hg
    simp only [Bool.and_eq_true, okM_iff, okC_iff] at hg
    obtain ⟨⟨rfl, rfl, hz, hzn⟩, h1, rfl, rfl, rfl, hn⟩ := hg
    cases hh : hasB l x with
    | true =>
      cases h2 : decide (getK l x > 1) with
      | true =>
        rw [takeW_t hh h2]
        unfold c2S
        rw [setK_len]
        exact comes_move (s' := c1S cmp k q z vl u nn l.length (setK l (bs l x) (IntKind.i64.wrap (getK l x - 1)))) (i := 2) (b := 3) (pre := [.fn (.func cmp) [] []]) (post := []) (L := [0, 2, 3]) rfl rfl rfl (by simp) rfl (by simp)
          (comes_spec (tch := [0, 2, 3]) h (by simp only [takeCF, RT.run, hh, h2, hg']))
      | false =>
        rw [takeW_d hh h2]
        unfold c2S
        rw [delK_len _ (hasB_lt hh)]
        exact comes_weak_in (s' := [.cells [.int .i64 k, .tsl q shV 1 0 z .tight, .ptr (some (2, 0)), .int .i64 u], .tbl false shV vl, .cells [.fn (.func cmp) [] [], .tsl true shP 4 0 (l.length - 1) .tight], .dead, .tbl false shP (delK l (bs l x))]) (i := 2) (pre := [.fn (.func cmp) [] []]) (post := []) rfl
          (comes_spec (tch := [0, 2, 3]) h (by simp only [takeCF, RT.run, hh, h2, hg']))
    | false =>
      rw [takeW_f hh]
      exact comes_move (s' := c1S cmp k q z vl u nn l.length l) (i := 2) (b := 3) (pre := [.fn (.func cmp) [] []]) (post := []) (L := [0, 2, 3]) rfl rfl rfl (by simp) rfl (by simp)
        (comes_spec (tch := []) h (by simp only [takeCF, RT.run, hh, hg']))
  · cases e
end Go.Sy
