/- Plain: what the walks on rows come to. -/
import Derived.Test.YteoockodkddipaaJx
import Derived.Test.YteoockodkddipaaPvJu
set_option linter.unusedSimpArgs false
set_option linter.unusedVariables false
set_option maxRecDepth 100000
namespace Go.Proofs.Yteoockodkddipaa
open Go Go.Sy
theorem at_is (i : Int) (l : List D) (c : Int) : atP_t0_V0 i l c = true ∧ atP_t0_V1 i l c = vK (atD (mkR i l) c) ∧ atP_t0_V2 i l c = vN (atD (mkR i l) c) ∧ atP_t0_V3 i l c = vS (atD (mkR i l) c) := by
  have e : ((mkR i l).fld 1).els = l := rfl
  unfold atP_t0_V0 atP_t0_V1 atP_t0_V2 atP_t0_V3 atD
  rw [e]
  by_cases h1 : c < 0
  · simp only [h1, decide_true, cond_true, true_or, if_true]
    exact ⟨trivial, rfl, rfl, rfl⟩
  · by_cases h2 : c < (l.length : Int)
    · have h3 : ¬ c ≥ (l.length : Int) := by omega
      simp only [h1, h2, h3, decide_true, decide_false, cond_false, false_or, not_true_eq_false, if_false, decide_eq_true (show (0 : Int) ≤ c by omega), Bool.and_true]
      exact ⟨trivial, rfl, rfl, rfl⟩
    · have h3 : c ≥ (l.length : Int) := by omega
      simp only [h1, h2, h3, decide_true, decide_false, cond_true, cond_false, false_or, not_false_eq_true, if_true]
      exact ⟨trivial, rfl, rfl, rfl⟩
theorem cmpO_mk (d : D) (i j : Int) (l m : List D) : cmpO d (mkR i l) (mkR j m) = if (d.fld 1).asBool then - cmpD (atD (mkR i l) (d.fld 0).asInt) (atD (mkR j m) (d.fld 0).asInt) else cmpD (atD (mkR i l) (d.fld 0).asInt) (atD (mkR j m) (d.fld 0).asInt) := rfl
theorem ecmp_loop (o : List D) (ho : o.length < 1000000) (i j : Int) (l m : List D) : loopR (ecmpP_t0_L0 (o, (o.length : Int), i, l, j, m)) 0 = some (scanL (scQ id (mkR i l) (mkR j m)) ((1 : Nat), (0 : Int)) 0 o) :=
  loop_scan (stp := ecmpP_t0_L0 (o, (o.length : Int), i, l, j, m)) o (scQ id (mkR i l) (mkR j m)) ((1 : Nat), (0 : Int)) (fun k hk => by
    have h1 := at_is i l ((o.getD k .nul).fld 0).asInt
    have h2 := at_is j m ((o.getD k .nul).fld 0).asInt
    have hr := cmpO_range (o.getD k .nul) (mkR i l) (mkR j m)
    have hd := cmpD_range (atD (mkR i l) ((o.getD k .nul).fld 0).asInt) (atD (mkR j m) ((o.getD k .nul).fld 0).asInt)
    have hc := cmpO_mk (o.getD k .nul) i j l m
    have eD : cmp3 (vK (atD (mkR i l) ((o.getD k .nul).fld 0).asInt)) (vN (atD (mkR i l) ((o.getD k .nul).fld 0).asInt)) (vS (atD (mkR i l) ((o.getD k .nul).fld 0).asInt)) (vK (atD (mkR j m) ((o.getD k .nul).fld 0).asInt)) (vN (atD (mkR j m) ((o.getD k .nul).fld 0).asInt)) (vS (atD (mkR j m) ((o.getD k .nul).fld 0).asInt)) = cmpD (atD (mkR i l) ((o.getD k .nul).fld 0).asInt) (atD (mkR j m) ((o.getD k .nul).fld 0).asInt) := rfl
    simp only [ecmpP_t0_L0, ecmpP_t0_L0_stp, nrun_br, nrun_more, nrun_done, nrun_fail, lt_cast hk, ge0, wrap1 (show k < 1000000 by omega), Int.toNat_natCast, Bool.and_true, if_true, h1.1, h1.2.1, h1.2.2.1, h1.2.2.2, h2.1, h2.2.1, h2.2.2.1, h2.2.2.2, eD, neg_wrap hd, scQ, id]
    generalize cmpD (atD (mkR i l) ((o.getD k .nul).fld 0).asInt) (atD (mkR j m) ((o.getD k .nul).fld 0).asInt) = x at hc hd ⊢
    rcases Bool.eq_false_or_eq_true ((o.getD k .nul).fld 1).asBool with p | p
    · simp only [p, if_true] at hc ⊢
      rw [hc]
      by_cases hx : -x = 0
      · simp only [hx, decide_true, Bool.not_true, Bool.false_eq_true, if_false, if_true]
      · simp only [hx, decide_false, Bool.not_false, if_true, if_false]
    · simp only [p, Bool.false_eq_true, if_false] at hc ⊢
      rw [hc]
      by_cases hx : x = 0
      · simp only [hx, decide_true, Bool.not_true, Bool.false_eq_true, if_false, if_true]
      · simp only [hx, decide_false, Bool.not_false, if_true, if_false]) (by
    simp only [ecmpP_t0_L0, ecmpP_t0_L0_stp, nrun_br, nrun_more, nrun_done, nrun_fail, lt_self]; rfl)
/-- The program's order of rows. -/
theorem ecmp_is (c : List UInt8) (a : List D) (b : Int) (d e f o : List D) (ho : o.length < 1000000) (g : Int) (h : List UInt8) (i j : Int) (l m : List D) (hl : l.length < 1000000) :
    ecmpP_t0_V0 c a b d e f o g h i l j m = true ∧ ecmpP_t0_V1 c a b d e f o g h i l j m = cmpQ o (mkR i l) (mkR j m) := by
  have hL := ecmp_loop o ho i j l m
  have hl' : decide (l.length < (4611686018427387904 : Nat)) = true := decide_eq_true (by omega)
  unfold ecmpP_t0_V0 ecmpP_t0_V1
  simp only [loopOk_of hL, loopV_of hL, hl']
  rcases scan_cmpQ id (0 : Int) (mkR i l) (mkR j m) o 0 with e | ⟨e, e2⟩
  · rw [e]; exact ⟨rfl, rfl⟩
  · rw [e, e2]; exact ⟨rfl, rfl⟩
/-- Each column is there. -/
def colIn (n : Nat) (o : List D) : Prop := ∀ k, k < o.length → 0 ≤ ((o.getD k .nul).fld 0).asInt ∧ ((o.getD k .nul).fld 0).asInt < (n : Int)
theorem atD_in {i : Int} {l : List D} {c : Int} (h0 : 0 ≤ c) (h1 : c < (l.length : Int)) : atD (mkR i l) c = l.getD c.toNat .nul := by
  have e : ((mkR i l).fld 1).els = l := rfl
  unfold atD
  rw [e, if_neg (by omega)]
theorem bef_loop (c0 : List UInt8) (a : List D) (b : Int) (d e f o : List D) (ho : o.length < 1000000) (g : Int) (h : List UInt8) (i j : Int) (l m : List D) (n : Nat) (hc : colIn n o) (hl : l.length = n) (hm : m.length = n) :
    loopR (befR_t0_L0 (c0, a, b, d, e, f, o, g, h, i, l, j, m)) 0 = some (scanL (scQ (fun c => decide (c < 0)) (mkR i l) (mkR j m)) ((1 : Nat), false) 0 o) :=
  loop_scan (stp := befR_t0_L0 (c0, a, b, d, e, f, o, g, h, i, l, j, m)) o (scQ (fun c => decide (c < 0)) (mkR i l) (mkR j m)) ((1 : Nat), false) (fun k hk => by
    obtain ⟨g0, g1⟩ := hc k hk
    have e1 := atD_in (i := i) (l := l) g0 (by omega)
    have e2 := atD_in (i := j) (l := m) g0 (by omega)
    have hd := cmpD_range (l.getD ((o.getD k .nul).fld 0).asInt.toNat .nul) (m.getD ((o.getD k .nul).fld 0).asInt.toNat .nul)
    have hc := cmpO_mk (o.getD k .nul) i j l m
    rw [e1, e2] at hc
    have eD : cmp3 ((l.getD ((o.getD k .nul).fld 0).asInt.toNat .nul).fld 0).asInt ((l.getD ((o.getD k .nul).fld 0).asInt.toNat .nul).fld 1).asInt ((l.getD ((o.getD k .nul).fld 0).asInt.toNat .nul).fld 2).asStr ((m.getD ((o.getD k .nul).fld 0).asInt.toNat .nul).fld 0).asInt ((m.getD ((o.getD k .nul).fld 0).asInt.toNat .nul).fld 1).asInt ((m.getD ((o.getD k .nul).fld 0).asInt.toNat .nul).fld 2).asStr = cmpD (l.getD ((o.getD k .nul).fld 0).asInt.toNat .nul) (m.getD ((o.getD k .nul).fld 0).asInt.toNat .nul) := rfl
    simp only [befR_t0_L0, befR_t0_L0_stp, nrun_br, nrun_more, nrun_done, nrun_fail, lt_cast hk, ge0, wrap1 (show k < 1000000 by omega), Int.toNat_natCast, Bool.and_true, if_true, decide_eq_true g0, decide_eq_true (show ((o.getD k .nul).fld 0).asInt < (l.length : Int) by omega), decide_eq_true (show ((o.getD k .nul).fld 0).asInt < (m.length : Int) by omega), eD, neg_wrap hd, scQ]
    generalize cmpD (l.getD ((o.getD k .nul).fld 0).asInt.toNat .nul) (m.getD ((o.getD k .nul).fld 0).asInt.toNat .nul) = x at hc hd ⊢
    rcases Bool.eq_false_or_eq_true ((o.getD k .nul).fld 1).asBool with p | p
    · simp only [p, if_true] at hc ⊢
      rw [hc]
      by_cases hx : -x = 0
      · simp only [hx, decide_true, Bool.not_true, Bool.false_eq_true, if_false, if_true]
      · simp only [hx, decide_false, Bool.not_false, if_true, if_false]
    · simp only [p, Bool.false_eq_true, if_false] at hc ⊢
      rw [hc]
      by_cases hx : x = 0
      · simp only [hx, decide_true, Bool.not_true, Bool.false_eq_true, if_false, if_true]
      · simp only [hx, decide_false, Bool.not_false, if_true, if_false]) (by
    simp only [befR_t0_L0, befR_t0_L0_stp, nrun_br, nrun_more, nrun_done, nrun_fail, lt_self]; rfl)
/-- The reference's order of rows. -/
theorem bef_is (c0 : List UInt8) (a : List D) (b : Int) (d e f o : List D) (ho : o.length < 1000000) (g : Int) (h : List UInt8) (i j : Int) (l m : List D) (n : Nat) (hc : colIn n o) (hl : l.length = n) (hm : m.length = n) (hn : n < 1000000) :
    befR_t0_V0 c0 a b d e f o g h i l j m = true ∧ befR_t0_V1 c0 a b d e f o g h i l j m = decide (cmpQ o (mkR i l) (mkR j m) < 0) := by
  have hL := bef_loop c0 a b d e f o ho g h i j l m n hc hl hm
  have hl' : decide (l.length < (4611686018427387904 : Nat)) = true := decide_eq_true (by omega)
  unfold befR_t0_V0 befR_t0_V1
  simp only [loopOk_of hL, loopV_of hL, hl']
  rcases scan_cmpQ (fun c => decide (c < 0)) false (mkR i l) (mkR j m) o 0 with e | ⟨e, e2⟩
  · rw [e]; exact ⟨rfl, rfl⟩
  · rw [e, e2, cmpQ_nil_lt]
    refine ⟨?_, rfl⟩
    cases decide (i = j) <;> rfl
end Go.Proofs.Yteoockodkddipaa
