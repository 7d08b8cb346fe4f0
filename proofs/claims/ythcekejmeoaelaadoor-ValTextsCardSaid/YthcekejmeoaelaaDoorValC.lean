/- Walks: the statements of layer 1. -/
import Derived.Test.YthcekejmeoaelaaDoorValB
set_option linter.unusedSimpArgs false
set_option linter.unusedVariables false
set_option maxRecDepth 100000
namespace Go.Proofs.YthcekejmeoaelaaDoor
open Go Go.Sy
attribute [local irreducible] bodyK roundK
def prB : FuncId → Option Sy.Spec := addP 29 numVF (addP 30 txtVF (addP 13 mayF (addP 15 cmpF (addP 17 eqVF (addP 19 testF (addP 21 textF (addP 24 rowF (addP 27 nameF noP))))))))
theorem prB_ok : PrOk Tryd.prog prB := prOk_add num_ok (prOk_add text_ok (prOk_add pmay_ok (prOk_add pcmp_ok (prOk_add peq_ok (prOk_add ptest_ok (prOk_add ptext_ok (prOk_add prow_ok (prOk_add pname_ok prOk_none))))))))
theorem begun_body (k : AV → St → Prop) : bodyK Tryd.prog prB noL 100 11 [] [] [] k = k (.bool true) [] := by kernel_rfl
theorem begun_ok : SpecOk Tryd.prog 11 trueF.f := specOk_comes fun args s v s' tch e => by
  simp only [trueF] at e
  split at e
  · obtain ⟨hg, rfl, rfl, rfl⟩ := run_ok e
    refine comes_of ok prB_ok (L := 100) (ms := []) (by kernel_rfl) loops_none ?_
    rw [begun_body]
    exact ⟨rfl, rfl⟩
  · cases e
def prL : FuncId → Option Sy.Spec := addP 11 trueF (addP 26 cutF (addP 12 valF (addP 23 valsF (addP 14 mayF (addP 16 cmpF (addP 18 eqVF (addP 20 testF (addP 22 textF (addP 25 rowF (addP 28 nameF prB))))))))))
theorem prL_ok : PrOk Tryd.prog prL := prOk_add begun_ok (prOk_add cut_ok (prOk_add val_ok (prOk_add vals_ok (prOk_add rmay_ok (prOk_add cmp_ok (prOk_add req_ok (prOk_add rtest_ok (prOk_add rtext_ok (prOk_add row_ok (prOk_add rname_ok prB_ok))))))))))
theorem all_body (a b : Int) (c : List UInt8) (a' b' : Int) (c' : List UInt8) (op : Int) (k : AV → St → Prop) : bodyK Tryd.prog prL noL 100 3 [] [avV a b c, avV a' b' c', .int .i64 op] [] k =
  br (decide ((cutS c (20 : Int)).length < (1000 : Nat)))
    (br (decide ((cutS c (20 : Int)).length < (1000 : Nat)))
      (br (!mayV a b (cutS c (20 : Int)) == mayV a b (cutS c (20 : Int)))
        (k (AV.bool false) [])
        (br (!decide (cmp3 a b (cutS c (20 : Int)) a' b' (cutS c' (20 : Int)) = cmp3 a b (cutS c (20 : Int)) a' b' (cutS c' (20 : Int))))
          (k (AV.bool false) [])
          (br (!decide (cmp3 a b (cutS c (20 : Int)) a' b' (cutS c' (20 : Int)) = (0 : Int)) == decide (cmp3 a b (cutS c (20 : Int)) a' b' (cutS c' (20 : Int)) = (0 : Int)))
            (k (AV.bool false) [])
            (br (!testV op a b (cutS c (20 : Int)) a' b' (cutS c' (20 : Int)) == testV op a b (cutS c (20 : Int)) a' b' (cutS c' (20 : Int)))
              (k (AV.bool false) [])
              (br (decide ((cutS c (20 : Int)).length < (1000 : Nat)))
                (br (!mayV a b (cutS c (20 : Int)))
                  (k (AV.bool true) [])
                  (br (in64 b && decide ((cutS c (20 : Int)).length < (1000 : Nat)))
                    (br (in64 b && decide ((cutS c (20 : Int)).length < (1000 : Nat)))
                      (k (AV.bool (eqBytes (textV a b (cutS c (20 : Int))) (textV a b (cutS c (20 : Int))))) [])
                      (False))
                    (False)))
                (False))))))
      (False))
    (False) := by kernel_rfl
theorem all_comes (a b : Int) (c : List UInt8) (a' b' : Int) (c' : List UInt8) (op : Int) (hb : in64 b = true) : Sy.Comes Tryd.prog 3 [avV a b c, avV a' b' c', .int .i64 op] [] (.bool true) [] := by
  refine comes_of ok prL_ok (L := 100) (ms := []) (by kernel_rfl) loops_none ?_
  refine Eq.mpr (all_body a b c a' b' c' op _) ?_
  cases h : mayV a b (cutS c 20) <;> simp [br, cut20, hb, h, eqBytes_refl]
theorem three_body (a b : Int) (c : List UInt8) (a' b' : Int) (c' : List UInt8) (a2 b2 : Int) (c2 : List UInt8) (k : AV → St → Prop) : bodyK Tryd.prog prL noL 100 4 [] [avV a b c, avV a' b' c', avV a2 b2 c2] [] k =
  br (!decide (cmp3 a b (cutS c (20 : Int)) a b (cutS c (20 : Int)) = (0 : Int)))
    (k (AV.bool false) [])
    (br (!decide (cmp3 a b (cutS c (20 : Int)) a' b' (cutS c' (20 : Int)) = IntKind.i64.wrap ((0 : Int) - cmp3 a' b' (cutS c' (20 : Int)) a b (cutS c (20 : Int)))))
      (k (AV.bool false) [])
      (br (!decide (cmp3 a b (cutS c (20 : Int)) a' b' (cutS c' (20 : Int)) = (0 : Int)) == decide (cmp3 a b (cutS c (20 : Int)) a' b' (cutS c' (20 : Int)) = (0 : Int)))
        (k (AV.bool false) [])
        (br (decide (cmp3 a b (cutS c (20 : Int)) a' b' (cutS c' (20 : Int)) > (0 : Int)))
          (k (AV.bool true) [])
          (br (decide (cmp3 a' b' (cutS c' (20 : Int)) a2 b2 (cutS c2 (20 : Int)) > (0 : Int)))
            (k (AV.bool true) [])
            (k (AV.bool (decide (cmp3 a b (cutS c (20 : Int)) a2 b2 (cutS c2 (20 : Int)) ≤ (0 : Int)))) []))))) := by kernel_rfl
theorem three_comes (a b : Int) (c : List UInt8) (a' b' : Int) (c' : List UInt8) (a2 b2 : Int) (c2 : List UInt8) : Sy.Comes Tryd.prog 4 [avV a b c, avV a' b' c', avV a2 b2 c2] [] (.bool true) [] := by
  refine comes_of ok prL_ok (L := 100) (ms := []) (by kernel_rfl) loops_none ?_
  refine Eq.mpr (three_body a b c a' b' c' a2 b2 c2 _) ?_
  have hs := cmp3_swap a b (cutS c 20) a' b' (cutS c' 20)
  have hr := cmp3_range a b (cutS c 20) a' b' (cutS c' 20)
  have hw : IntKind.i64.wrap ((0 : Int) - cmp3 a' b' (cutS c' 20) a b (cutS c 20)) = cmp3 a b (cutS c 20) a' b' (cutS c' 20) := by rw [wrap64 (by omega) (by omega)]; omega
  rw [cmp3_refl, hw]
  refine br_mk (fun h => by simp at h) (fun _ => br_mk (fun h => by simp at h) (fun _ => br_mk (fun h => by simp at h) (fun _ => br_iff.2 ⟨fun _ => ⟨rfl, rfl⟩, fun h1 => br_iff.2 ⟨fun _ => ⟨rfl, rfl⟩, fun h2 => ⟨?_, rfl⟩⟩⟩)))
  rw [decide_eq_true (cmp3_trans (Int.not_lt.1 h1) (Int.not_lt.1 h2))]
theorem rows_body (l m : List D) (k : AV → St → Prop) : bodyK Tryd.prog prL noL 100 5 [] [.fz false shV l, .fz false shV m] [] k =
  br (decide ((D.list (valsD (D.list l).els (6 : Int))).els.length < (2 : Nat) ^ (62 : Nat)))
    (br (decide ((D.list (valsD (D.list l).els (6 : Int))).els.length < (2 : Nat) ^ (62 : Nat)))
      (br (decide (rowD (D.list (valsD (D.list l).els (6 : Int))).els (D.list (valsD (D.list m).els (6 : Int))).els = rowD (D.list (valsD (D.list l).els (6 : Int))).els (D.list (valsD (D.list m).els (6 : Int))).els))
        (br (decide ((D.list (valsD (D.list l).els (6 : Int))).els.length < (2 : Nat) ^ (62 : Nat)))
          (br (decide (rowD (D.list (valsD (D.list l).els (6 : Int))).els (D.list (valsD (D.list l).els (6 : Int))).els = (0 : Int)))
            (br (decide ((D.list (valsD (D.list m).els (6 : Int))).els.length < (2 : Nat) ^ (62 : Nat)))
              (br (decide ((D.list (valsD (D.list l).els (6 : Int))).els.length < (2 : Nat) ^ (62 : Nat)))
                (k (AV.bool (decide (rowD (D.list (valsD (D.list m).els (6 : Int))).els (D.list (valsD (D.list l).els (6 : Int))).els = IntKind.i64.wrap ((0 : Int) - rowD (D.list (valsD (D.list l).els (6 : Int))).els (D.list (valsD (D.list m).els (6 : Int))).els)))) [])
                (False))
              (False))
            (k (AV.bool false) []))
          (False))
        (k (AV.bool false) []))
      (False))
    (False) := by kernel_rfl
theorem rows_comes (l m : List D) : Sy.Comes Tryd.prog 5 [.fz false shV l, .fz false shV m] [] (.bool true) [] := by
  refine comes_of ok prL_ok (L := 100) (ms := []) (by kernel_rfl) loops_none ?_
  refine Eq.mpr (rows_body l m _) ?_
  have hl : (valsD l 6).length < 2 ^ 62 := by have : (valsD l 6).length ≤ 6 := by simp [valsD]; omega
                                              omega
  have hm : (valsD m 6).length < 2 ^ 62 := by have : (valsD m 6).length ≤ 6 := by simp [valsD]; omega
                                              omega
  have hs := rowD_swap (valsD l 6) (valsD m 6)
  have hr := rowD_range (valsD l 6) (valsD m 6)
  have hw : IntKind.i64.wrap ((0 : Int) - rowD (valsD l 6) (valsD m 6)) = rowD (valsD m 6) (valsD l 6) := by rw [wrap64 (by omega) (by omega)]; omega
  have h0 : rowD (valsD l 6) (valsD l 6) = 0 := rowD_zero rfl fun i hi => cmp3_refl _ _ _
  exact br_t (decide_eq_true hl) (br_t (decide_eq_true hl) (br_t (decide_eq_true rfl) (br_t (decide_eq_true hl) (br_t (decide_eq_true h0) (br_t (decide_eq_true hm) (br_t (decide_eq_true hl) ⟨congrArg AV.bool (decide_eq_true hw.symm), rfl⟩))))))
theorem names_body (c : List UInt8) (k : AV → St → Prop) : bodyK Tryd.prog prL noL 100 7 [] [.str c] [] k =
  br (decide ((cutS c (20 : Int)).length < (1000 : Nat)))
    (br (decide ((cutS c (20 : Int)).length < (1000 : Nat)))
      (k (AV.bool (nameV (cutS c (20 : Int)) == nameV (cutS c (20 : Int)))) [])
      (False))
    (False) := by kernel_rfl
theorem names_comes (c : List UInt8) : Sy.Comes Tryd.prog 7 [.str c] [] (.bool true) [] := by
  refine comes_of ok prL_ok (L := 100) (ms := []) (by kernel_rfl) loops_none ?_
  refine Eq.mpr (names_body c _) ?_
  simp [br, cut20]
theorem word_body2 (a b : Int) (c : List UInt8) (a' b' : Int) (c' : List UInt8) (k : AV → St → Prop) : bodyK Tryd.prog prL noL 100 8 [] [avV a b c, avV a' b' c'] [] k =
  br (decide ((cutS c (20 : Int)).length < (1000 : Nat)))
    (br (!mayV a b (cutS c (20 : Int)))
      (k (AV.bool true) [])
      (br (decide ((cutS c' (20 : Int)).length < (1000 : Nat)))
        (br (!mayV a' b' (cutS c' (20 : Int)))
          (k (AV.bool true) [])
          (br (in64 b && decide ((cutS c (20 : Int)).length < (1000 : Nat)))
            (br (in64 b' && decide ((cutS c' (20 : Int)).length < (1000 : Nat)))
              (k (AV.bool (eqBytes (textV a b (cutS c (20 : Int))) (textV a' b' (cutS c' (20 : Int))) == decide (cmp3 a b (cutS c (20 : Int)) a' b' (cutS c' (20 : Int)) = (0 : Int)))) [])
              (False))
            (False)))
        (False)))
    (False) := by kernel_rfl
theorem word_comes (a b : Int) (c : List UInt8) (a' b' : Int) (c' : List UInt8) (hb : in64 b = true) (hb' : in64 b' = true) : Sy.Comes Tryd.prog 8 [avV a b c, avV a' b' c'] [] (.bool true) [] := by
  refine comes_of ok prL_ok (L := 100) (ms := []) (by kernel_rfl) loops_none ?_
  refine Eq.mpr (word_body2 a b c a' b' c' _) ?_
  cases h : mayV a b (cutS c 20)
  · simp [br, cut20, h]
  cases h' : mayV a' b' (cutS c' 20)
  · simp [br, cut20, h, h']
  have := text_inj h h'
  simp [br, cut20, h, h', hb, hb', this]
end Go.Proofs.YthcekejmeoaelaaDoor
