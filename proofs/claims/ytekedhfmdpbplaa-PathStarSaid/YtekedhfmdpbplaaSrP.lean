/- Plain: a table is added. -/
import Derived.Test.YtekedhfmdpbplaaPvZa
import Derived.Test.YtekedhfmdpbplaaSyMap
import Derived.Test.YtekedhfmdpbplaaSrO
set_option linter.unusedSimpArgs false
set_option linter.unusedVariables false
set_option maxRecDepth 100000
namespace Go.Proofs.Ytekedhfmdpbplaa
open Go Go.Sy
section
variable (w : List D) (a : List UInt8) (l : List D) (c : List UInt8) (d : List D)
theorem run_t {c : Bool} {x y : RT} (h : c = true) : (RT.br c x y).run = x.run := by subst h; rfl
theorem run_f {c : Bool} {x y : RT} (h : c = false) : (RT.br c x y).run = y.run := by subst h; rfl
theorem addSP_run (hw : w.length < 1000000) (hok : ∀ t ∈ w, OkT t) (hl : l.length < 1000000) (hd : d.length < 1000000) (hd' : ∀ i, i < d.length → ((d.getD i .nul).fld 0).els.length < 1000000) (hn : ∀ i, i < d.length → nrmD (d.getD i .nul) = d.getD i .nul) :
    (addSP_t0 w.length w a l c d).run = if addE w a l c d = 0 then some (.int .i64 0, [.cells [.tsl true shTab 2 0 (w.length + 1) .tight], .dead, .tbl false shTab (w ++ [mkT a (formC c l) c d])], []) else some (.int .i64 (addE w a l c d), [.cells [.tsl false shTab 1 0 w.length .tight], .tbl false shTab w], []) := by
  have h1 := snamedP_is w a l c d hw hok hl hd hd'
  have h2 := cfCP_is l hl
  have h3 := refsP_is w a l c d hw hok hl
  have h4 := copiedP_is a l c d hl hd hd' hn
  have h5 := ixCP1_is l c hl
  have five : addE w a l c d = 5 → ¬ addE w a l c d = 0 := fun h => by rw [h]; decide
  unfold addSP_t0
  by_cases p1 : 8 ≤ w.length
  · have e : addE w a l c d = 5 := by unfold addE; rw [if_pos (.inl p1)]
    rw [run_t (show addSP_t0_V0 w.length w a l c d = true from decide_eq_true (by omega)), if_neg (five e), e]; rfl
  rw [run_f (show addSP_t0_V0 w.length w a l c d = false from decide_eq_false (by omega))]
  by_cases p2 : l.length < 1
  · have e : addE w a l c d = 5 := by unfold addE; rw [if_pos (.inr (.inl p2))]
    rw [run_t (show addSP_t0_V1 w.length w a l c d = true from decide_eq_true (by omega)), if_neg (five e), e]; rfl
  rw [run_f (show addSP_t0_V1 w.length w a l c d = false from decide_eq_false (by omega))]
  by_cases p3 : 6 < l.length
  · have e : addE w a l c d = 5 := by unfold addE; rw [if_pos (.inr (.inr (.inl p3)))]
    rw [run_t (show addSP_t0_V2 w.length w a l c d = true from decide_eq_true (by omega)), if_neg (five e), e]; rfl
  rw [run_f (show addSP_t0_V2 w.length w a l c d = false from decide_eq_false (by omega))]
  by_cases p4 : 3 < d.length
  · have e : addE w a l c d = 5 := by unfold addE; rw [if_pos (.inr (.inr (.inr p4)))]
    rw [run_t (show addSP_t0_V3 w.length w a l c d = true from decide_eq_true (by omega)), if_neg (five e), e]; rfl
  rw [run_f (show addSP_t0_V3 w.length w a l c d = false from decide_eq_false (by omega)), run_t h1.1]
  have e0 : addE w a l c d = if namesE w a l c d then (if allN (fun i => !kindBad (l.getD i .nul)) l.length then refsE w l else 4) else 3 := by
    unfold addE; rw [if_neg (by omega)]
  rcases Bool.eq_false_or_eq_true (namesE w a l c d) with q1 | q1
  · rw [q1, if_pos rfl] at e0
    rw [run_f (show addSP_t0_V4 w.length w a l c d = false by unfold addSP_t0_V4; rw [h1.2, q1]; rfl), run_t (show (ixCP_t2_V0 l && true) = true by rw [h2.1]; rfl)]
    rcases Bool.eq_false_or_eq_true (allN (fun i => !kindBad (l.getD i .nul)) l.length) with q2 | q2
    · rw [q2, if_pos rfl] at e0
      rw [run_f (show cfCP_t0_V0 l = false by rw [h2.2, q2]; rfl), run_t h3.1]
      by_cases q3 : refsE w l = 0
      · rw [q3] at e0
        rw [run_f (show addSP_t0_V5 w.length w a l c d = false by unfold addSP_t0_V5; rw [h3.2, q3]; rfl), run_t h4.1, run_t (show addSP_t0_V6 w.length w a l c d = true by unfold addSP_t0_V6; rw [h5.1]; rfl), if_pos e0]
        have hg : (((3 : Nat) * (w.length + (1 : Nat)) + (2000 : Nat)) * (80 : Nat)).ble (281474976710656 : Nat) = true := Nat.ble_eq_true_of_le (by omega)
        rcases Bool.eq_false_or_eq_true (hasN c l) with q4 | q4
        · have q4' := of_decide_eq_true q4
          have hk : (ixI (nmIs c) l).toNat < l.length ∧ ixI (nmIs c) l < (l.length : Int) := by
            rcases ixI_cases (nmIs c) l with ⟨k, k1, _, _, e⟩ | ⟨_, e⟩ <;> rw [e] at q4' ⊢ <;> omega
          have hf := formC_set (namesE_cols q1).1 q4
          rw [run_t (show addSP_t0_V7 w.length w a l c d = true by unfold addSP_t0_V7; rw [h5.2]; exact q4), run_t (show addSP_t0_V8 w.length w a l c d = true by unfold addSP_t0_V8; rw [h5.2, decide_eq_true q4', decide_eq_true hk.2]; rfl),
            run_t (show addSP_t0_V9 w.length w a l c d = true by unfold addSP_t0_V9; rw [h5.2, Nat.zero_add]; exact decide_eq_true hk.1),
            run_t (show addSP_t0_V10 w.length w a l c d = true by unfold addSP_t0_V10; simp only [hg, h4.2, List.length_set, Nat.zero_add, Nat.ble_self_eq_true]; rfl)]
          have : addSP_t0_V11 w.length w a l c d = w ++ [mkT a (formC c l) c d] := by
            unfold addSP_t0_V11
            rw [h5.2, Nat.zero_add, h4.2]
            simp only [List.drop_zero, List.take_length]
            rw [List.take_of_length_le (by rw [List.length_set]; omega)]
            have hf' := hf
            unfold must at hf'
            rw [hf']
            rfl
          unfold okL
          simp only [RT.run, this]
        · rw [run_f (show addSP_t0_V7 w.length w a l c d = false by unfold addSP_t0_V7; rw [h5.2]; exact q4),
            run_t (show addSP_t0_V12 w.length w a l c d = true by unfold addSP_t0_V12; simp only [hg, h4.2, List.length_set, Nat.zero_add, Nat.ble_self_eq_true]; rfl)]
          have : addSP_t0_V13 w.length w a l c d = w ++ [mkT a (formC c l) c d] := by
            unfold addSP_t0_V13
            rw [h4.2, formC_none q4]
            simp only [List.drop_zero, List.take_length]
            rfl
          unfold okL
          simp only [RT.run, this]
      · rw [if_neg (by rw [e0]; exact q3), run_t (show addSP_t0_V5 w.length w a l c d = true by unfold addSP_t0_V5; rw [h3.2, decide_eq_false q3]; rfl), e0, ← h3.2]; rfl
    · rw [q2, if_neg (by simp)] at e0
      rw [run_t (show cfCP_t0_V0 l = true by rw [h2.2, q2]; rfl), e0]; rfl
  · rw [q1, if_neg (by simp)] at e0
    rw [run_t (show addSP_t0_V4 w.length w a l c d = true by unfold addSP_t0_V4; rw [h1.2, q1]; rfl), e0]; rfl
end
theorem addN_ok : SpecOk Try.prog 16 addN.f := specOk_comes fun args s v s' tch e => by
  simp only [addN] at e
  split at e
  · rename_i a e0 l c e1 d e2 n e3 w
    obtain ⟨hg, rfl, rfl, rfl⟩ := run_ok e
    simp only [Bool.and_eq_true] at hg
    obtain ⟨h0, h1, h2, h3, h4, h5⟩ := hg
    obtain rfl := Sh.beq_eq _ _ h0
    obtain rfl := Sh.beq_eq _ _ h1
    obtain rfl := Sh.beq_eq _ _ h2
    obtain rfl := Sh.beq_eq _ _ h3
    obtain rfl := Nat.eq_of_beq_eq_true h4
    obtain ⟨k1, k2, k3, k4, k5, k6⟩ := addOk_iff.1 h5
    have hr := addSP_run w a l c d k1 k2 k3 k4 k5 k6
    have hs : ((addSP).f [.ptr (some (0, 0)), .agg [.str a, .fz false shCol l, .str c, .fz false shDep d]] [.cells [.tsl false shTab 1 0 w.length .tight], .tbl false shTab w]).run = (addSP_t0 w.length w a l c d).run := rfl
    by_cases q : addE w a l c d = 0
    · rw [if_pos q] at hr
      rw [hr] at hs
      have C : Sy.Comes Try.prog 16 _ _ _ _ := ⟨addSP_ok.len _ _ _ _ _ hs, addSP_ok.calls _ _ _ _ _ hs⟩
      have := mMove_ok 0 0 _ _ _ _ _ C
      unfold addT
      rw [if_pos q, q, List.length_append]
      exact this
    · rw [if_neg q] at hr
      rw [hr] at hs
      have C : Sy.Comes Try.prog 16 _ _ _ _ := ⟨addSP_ok.len _ _ _ _ _ hs, addSP_ok.calls _ _ _ _ _ hs⟩
      have := mMove_ok 0 0 _ _ _ _ _ C
      unfold addT
      rw [if_neg q]
      exact this
  · cases e
end Go.Proofs.Ytekedhfmdpbplaa
