/- Schemas' functions, told as plain reckoning. -/
import Derived.Test.YtekedhfmdpbplaaPvPb
import Derived.Test.YtekedhfmdpbplaaPaL
set_option linter.unusedSimpArgs false
set_option linter.unusedVariables false
set_option maxRecDepth 100000
namespace Go.Proofs.Ytekedhfmdpbplaa
open Go Go.Sy
theorem bothG_ok : SpecOk Try.prog 26 bothG.f := specOk_comes fun args s v s' tch e => by
  simp only [bothG] at e
  split at e
  · rename_i e0 l
    obtain ⟨hg, rfl, rfl, rfl⟩ := run_ok e
    simp only [Bool.and_eq_true] at hg
    obtain ⟨h0, h1⟩ := hg
    obtain rfl := Sh.beq_eq _ _ h0
    obtain ⟨k1, k2⟩ := insB_ok h1
    obtain ⟨_, b0, b1, b2, b3⟩ := bothP_is l k1 k2
    have h : (bothP.f [.fz false shTab l] []).run = some (.tup [.ptr (some (0, 0)), .fz false shTab (bothS [] l)], [.cells [.tsl false shTab 1 0 (bothS [] l).length .tight], .tbl false shTab (bothS [] l)], []) := by
      have hb : (Sh.beq shTab shTab && true) = true := by kernel_rfl
      show RT.run (.br (Sh.beq shTab shTab && true) (bothP_t0 l) .fail) = _
      rw [hb]
      unfold bothP_t0
      rw [b0, b1, b2, b3]
      rfl
    exact ⟨bothP_ok.len _ _ _ _ _ h, bothP_ok.calls _ _ _ _ _ h⟩
  · cases e
theorem findG_ok : SpecOk Try.prog 19 findG.f := specOk_comes fun args s v s' tch e => by
  simp only [findG] at e
  split at e
  · rename_i a b c e0 x y n e1 w
    obtain ⟨hg, rfl, rfl, rfl⟩ := run_ok e
    simp only [Bool.and_eq_true] at hg
    obtain ⟨h0, h1, h2, h3, h4, h5, h6, h7⟩ := hg
    obtain rfl := Nat.eq_of_beq_eq_true h0
    obtain rfl := Nat.eq_of_beq_eq_true h1
    obtain rfl := Sh.beq_eq _ _ h2
    obtain rfl := Nat.eq_of_beq_eq_true h3
    obtain rfl := Nat.eq_of_beq_eq_true h4
    obtain rfl := Nat.eq_of_beq_eq_true h5
    obtain rfl := Sh.beq_eq _ _ h6
    obtain ⟨k1, k2⟩ := wB_ok h7
    obtain ⟨b0, b5, b1, b2⟩ := findP_is w c k1 k2
    have hv : findP_t0_V1 w.length w c = (bif hasN c w then ((tabAt w c).fld 0).asStr else []) ∧ findP_t0_V2 w.length w c = (bif hasN c w then ((tabAt w c).fld 1).els else []) ∧ findP_t0_V3 w.length w c = (bif hasN c w then ((tabAt w c).fld 2).asStr else []) ∧ findP_t0_V4 w.length w c = (bif hasN c w then ((tabAt w c).fld 3).els else []) := by
      rcases Bool.eq_false_or_eq_true (hasN c w) with p | p
      · obtain ⟨q1, q2, q3, q4⟩ := b1 p
        rw [p]
        exact ⟨q1, q2, q3, q4⟩
      · obtain ⟨q1, q2⟩ := b2 p
        rw [p]
        refine ⟨q1, q2, ?_, ?_⟩
        · unfold findP_t0_V3; rw [(ixTP_is w c k1).2, decide_eq_true (hasN_no p)]; rfl
        · unfold findP_t0_V4; rw [(ixTP_is w c k1).2, decide_eq_true (hasN_no p)]; rfl
    obtain ⟨v1, v2, v3, v4⟩ := hv
    have h : (findP.f [.ptr (some (0, 0)), .str c] [.cells [.tsl false shTab 1 0 w.length .tight], .tbl false shTab w]).run = some (.tup [.agg [.str (bif hasN c w then ((tabAt w c).fld 0).asStr else []), .fz false shCol (bif hasN c w then ((tabAt w c).fld 1).els else []), .str (bif hasN c w then ((tabAt w c).fld 2).asStr else []), .fz false shDep (bif hasN c w then ((tabAt w c).fld 3).els else [])], .bool (hasN c w)], [.cells [.tsl false shTab 1 0 w.length .tight], .tbl false shTab w], []) := by
      show RT.run (.br (Nat.beq 0 (0 : Nat) && (Nat.beq 0 (0 : Nat) && (Sh.beq shTab shTab && (Nat.beq 1 (1 : Nat) && (Nat.beq 0 (0 : Nat) && (Sh.beq shTab shTab && (true))))))) (findP_t0 w.length w c) .fail) = _
      have hb : (Nat.beq 0 (0 : Nat) && (Nat.beq 0 (0 : Nat) && (Sh.beq shTab shTab && (Nat.beq 1 (1 : Nat) && (Nat.beq 0 (0 : Nat) && (Sh.beq shTab shTab && (true))))))) = true := by kernel_rfl
      rw [hb]
      unfold findP_t0
      rw [b0, b5, v1, v2, v3, v4]
      rfl
    exact ⟨findP_ok.len _ _ _ _ _ h, findP_ok.calls _ _ _ _ _ h⟩
  · cases e
theorem scol_run (w : List D) (t c : List UInt8) (h7 : wB w = true) : (scolP.f [.ptr (some (0, 0)), .str t, .str c] [.cells [.tsl false shTab 1 0 w.length .tight], .tbl false shTab w]).run = some (.tup [.agg [.str (scolP_t0_V1 w.length w t c), .int .i64 (scolP_t0_V2 w.length w t c), .bool (scolP_t0_V3 w.length w t c), .str (scolP_t0_V4 w.length w t c)], .bool (scolP_t0_V5 w.length w t c)], [.cells [.tsl false shTab 1 0 w.length .tight], .tbl false shTab w], []) := by
  obtain ⟨k1, k2⟩ := wB_ok h7
  obtain ⟨b0, b5, b1⟩ := scolP_is w t c k1 k2
  show RT.run (.br (Nat.beq 0 (0 : Nat) && (Nat.beq 0 (0 : Nat) && (Sh.beq shTab shTab && (Nat.beq 1 (1 : Nat) && (Nat.beq 0 (0 : Nat) && (Sh.beq shTab shTab && (true))))))) (scolP_t0 w.length w t c) .fail) = _
  have hb : (Nat.beq 0 (0 : Nat) && (Nat.beq 0 (0 : Nat) && (Sh.beq shTab shTab && (Nat.beq 1 (1 : Nat) && (Nat.beq 0 (0 : Nat) && (Sh.beq shTab shTab && (true))))))) = true := by kernel_rfl
  rw [hb]
  unfold scolP_t0
  rw [b0]
  rfl
theorem scolG_ok : SpecOk Try.prog 22 scolG.f := specOk_comes fun args s v s' tch e => by
  simp only [scolG] at e
  split at e
  · rename_i a b t c e0 x y n e1 w
    obtain ⟨hg, rfl, rfl, rfl⟩ := run_ok e
    simp only [Bool.and_eq_true] at hg
    obtain ⟨h0, h1, h2, h3, h4, h5, h6, h7, h8, h9⟩ := hg
    obtain rfl := Nat.eq_of_beq_eq_true h0
    obtain rfl := Nat.eq_of_beq_eq_true h1
    obtain rfl := Sh.beq_eq _ _ h2
    obtain rfl := Nat.eq_of_beq_eq_true h3
    obtain rfl := Nat.eq_of_beq_eq_true h4
    obtain rfl := Nat.eq_of_beq_eq_true h5
    obtain rfl := Sh.beq_eq _ _ h6
    obtain ⟨k1, k2⟩ := wB_ok h7
    obtain ⟨b0, b5, b1⟩ := scolP_is w t c k1 k2
    obtain ⟨v1, v2, v3, v4⟩ := b1 h8 h9
    have h := scol_run w t c h7
    rw [b5, v1, v2, v3, v4, h8, h9] at h
    exact ⟨scolP_ok.len _ _ _ _ _ h, scolP_ok.calls _ _ _ _ _ h⟩
  · cases e
theorem scolN_ok : SpecOk Try.prog 22 scolN.f := specOk_comes fun args s v s' tch e => by
  simp only [scolN] at e
  split at e
  · rename_i a b t c e0 x y n e1 w
    obtain ⟨hg, rfl, rfl, rfl⟩ := run_ok e
    simp only [Bool.and_eq_true, Bool.not_eq_true'] at hg
    obtain ⟨h0, h1, h2, h3, h4, h5, h6, h7, h8⟩ := hg
    obtain rfl := Nat.eq_of_beq_eq_true h0
    obtain rfl := Nat.eq_of_beq_eq_true h1
    obtain rfl := Sh.beq_eq _ _ h2
    obtain rfl := Nat.eq_of_beq_eq_true h3
    obtain rfl := Nat.eq_of_beq_eq_true h4
    obtain rfl := Nat.eq_of_beq_eq_true h5
    obtain rfl := Sh.beq_eq _ _ h6
    obtain ⟨k1, k2⟩ := wB_ok h7
    obtain ⟨b0, b5, b1⟩ := scolP_is w t c k1 k2
    have h := scol_run w t c h7
    have hx : decide (ixCP_t0_V1 (findP_t0_V2 w.length w t) c < (0 : Int)) = true := by
      unfold scolP_t0_V5 at b5
      rw [h8] at b5
      cases hd : decide (ixCP_t0_V1 (findP_t0_V2 w.length w t) c < (0 : Int)) with
      | true => rfl
      | false => rw [hd] at b5; cases b5
    have v1 : scolP_t0_V1 w.length w t c = [] := by unfold scolP_t0_V1; rw [hx]; rfl
    have v2 : scolP_t0_V2 w.length w t c = 0 := by unfold scolP_t0_V2; rw [hx]; rfl
    have v3 : scolP_t0_V3 w.length w t c = false := by unfold scolP_t0_V3; rw [hx]; rfl
    have v4 : scolP_t0_V4 w.length w t c = [] := by unfold scolP_t0_V4; rw [hx]; rfl
    rw [b5, v1, v2, v3, v4, h8] at h
    exact ⟨scolP_ok.len _ _ _ _ _ h, scolP_ok.calls _ _ _ _ _ h⟩
  · cases e
end Go.Proofs.Ytekedhfmdpbplaa
