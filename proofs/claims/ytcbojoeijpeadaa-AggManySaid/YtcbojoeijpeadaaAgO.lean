/- Walks, by the kit's own steps: slices.Insert and slices.Delete of one element, strings held against one another. -/
import Derived.Test.YtcbojoeijpeadaaSyIns
import Derived.Test.YtcbojoeijpeadaaPvU
import Derived.Test.YtcbojoeijpeadaaProg
import Derived.Shelf.Spec.SlicesInsertGrow
import Derived.KernelRfl
set_option linter.unusedVariables false
set_option linter.unusedSimpArgs false
namespace Go.Proofs.Ytcbojoeijpeadaa
open Go Go.RowKit Go.Lib Go.Sy
set_option maxHeartbeats 4000000 in
set_option maxRecDepth 100000 in
theorem ins_end (base : Option Addr) (n c : Nat) (vb : Addr) (vc : Nat) (w w' : World) (r : Value) (hnc : n ≤ c) (hnil : base = none → n = 0 ∧ c = 0) (hsp : ∀ a, base = some a → a.spot = none)
   (hrun : ∀ ty, (Builtin.append_ #[108, 108] ty #[.slice base n c, .slice (some vb) 1 vc]).run Try.prog w = .ok r w') :
   Calls Try.prog 71 #[.slice base n c, .int .i64 n, .slice (some vb) 1 vc] w fun e w'' => e = .returned r ∧ w'' = w' := by
  go_enter Try.func71, Try.ntmps71
  cases base with
  | none =>
    obtain ⟨rfl, rfl⟩ := hnil rfl
    go_wp2_with (at_builtin; refine Lib.wpList_append_run _ rfl _ _ _ _ rfl _ _ rfl rfl _ _ (hrun _) ?_)
    go_ret
    exact ⟨rfl, rfl⟩
  | some a =>
    obtain ⟨ab, ao, asp⟩ := a
    go_wp2_with (at_builtin; refine Lib.wpList_append_run _ rfl _ _ _ _ rfl _ _ rfl rfl _ _ (hrun _) ?_)
    all_goals (go_ret; exact ⟨rfl, rfl⟩)
set_option maxHeartbeats 4000000 in
set_option maxRecDepth 100000 in
theorem ins_shift (b off n c i : Nat) (vb : Addr) (vc : Nat) (w W1 W2 : World) (r1 r2 : Value) (hi : i < n) (hroom : n + 1 ≤ c) (hn9 : n ≤ 1000000000)
   (hov : ∀ lb cb, (callFunc 85 #[.slice (some vb) 1 vc, .slice (some ⟨b, off + (i + 1) * 4, none⟩) lb cb]).run Try.prog w = .ok (.value (.bool false)) w)
   (hcp1 : ∀ ty dc sc, (Builtin.copy_ #[108, 108] ty #[.slice (some ⟨b, off + (i + 1) * 4, none⟩) (n - i) dc, .slice (some ⟨b, off + i * 4, none⟩) (n + 1 - i) sc]).run Try.prog w.drew = .ok r1 W1)
   (hcp2 : ∀ ty dc, (Builtin.copy_ #[108, 108] ty #[.slice (some ⟨b, off + i * 4, none⟩) (n + 1 - i) dc, .slice (some vb) 1 vc]).run Try.prog W1 = .ok r2 W2) :
   Calls Try.prog 71 #[.slice (some ⟨b, off, none⟩) n c, .int .i64 i, .slice (some vb) 1 vc] w fun e w' => e = .returned (.slice (some ⟨b, off, none⟩) (n + 1) c) ∧ w' = W2 := by
  have mixed : Try.prog.follows .mixedOrders = true := by kernel_rfl
  have hz1 : ¬ ((1 : Int) = 0) := by omega
  have hz2 : ¬ ((i : Int) = (n : Int)) := by omega
  have hw1 : IntKind.i64.wrap ((i : Int) + 1) = (i : Int) + 1 := by rw [IntKind.wrap_i64]; omega
  have hw2 : IntKind.i64.wrap ((n : Int) + 1) = (n : Int) + 1 := by rw [IntKind.wrap_i64]; omega
  have hb1 : (0 : Int) ≤ (i : Int) + 1 := by omega
  have hin : i ≤ n := by omega
  have htn : ((i : Int) + 1).toNat = i + 1 := by omega
  have htn2 : ((n : Int) + 1).toNat = n + 1 := by omega
  have hb2 : ¬ (c = i + 1) := by omega
  have hb3 : (i : Int) ≤ (n : Int) + 1 := by omega
  have hb4 : ¬ (c = i) := by omega
  go_enter Try.func71, Try.ntmps71
  go_wp2_with (simp only [hov])
  go_region_law_o (refine step_copy_runI rfl _ _ 108 108 rfl _ _ (by simp [Act.eval, Act.put]) (by simp [Act.eval, Act.put]) (hcp1 _ _ _) ?_)
  go_wp2_with (at_builtin; refine wpList_copy_runI _ rfl _ _ 108 108 rfl _ _ rfl rfl (hcp2 _ _) ?_)
  go_ret
  exact ⟨rfl, rfl⟩
set_option maxHeartbeats 4000000 in
set_option maxRecDepth 100000 in
theorem ins_grow (b off n c i N C : Nat) (vb : Addr) (vc : Nat) (w W1 W2 W3 : World) (r2 r3 : Value) (hi : i < n) (hnc : n ≤ c) (hroom : c < n + 1) (hbig : n ≤ 1000000000) (hC : n + 1 ≤ C)
   (hrz : ∀ ty, (Builtin.append_ #[108, 3] ty #[.slice (some ⟨b, off, none⟩) i c, .int .i64 ((n : Int) + 1 - (i : Int))]).run Try.prog w = .ok (.slice (some ⟨N, 0, none⟩) (n + 1) C) W1)
   (hcp1 : ∀ ty dc, (Builtin.copy_ #[108, 108] ty #[.slice (some ⟨N, i * 4, none⟩) (n + 1 - i) dc, .slice (some vb) 1 vc]).run Try.prog W1 = .ok r2 W2)
   (hcp2 : ∀ ty dc sc, (Builtin.copy_ #[108, 108] ty #[.slice (some ⟨N, (i + 1) * 4, none⟩) (n - i) dc, .slice (some ⟨b, off + i * 4, none⟩) (n - i) sc]).run Try.prog W2.drew = .ok r3 W3) :
   Calls Try.prog 71 #[.slice (some ⟨b, off, none⟩) n c, .int .i64 i, .slice (some vb) 1 vc] w fun e w' => e = .returned (.slice (some ⟨N, 0, none⟩) (n + 1) C) ∧ w' = W3 := by
  have mixed : Try.prog.follows .mixedOrders = true := by kernel_rfl
  have hz1 : ¬ ((1 : Int) = 0) := by omega
  have hz2 : ¬ ((i : Int) = (n : Int)) := by omega
  have hz3 : (c : Int) < (n : Int) + 1 := by omega
  have hw1 : IntKind.i64.wrap ((i : Int) + 1) = (i : Int) + 1 := by rw [IntKind.wrap_i64]; omega
  have hw2 : IntKind.i64.wrap ((n : Int) + 1) = (n : Int) + 1 := by rw [IntKind.wrap_i64]; omega
  have hw3 : IntKind.i64.wrap ((n : Int) + 1 - (i : Int)) = (n : Int) + 1 - (i : Int) := by rw [IntKind.wrap_i64]; omega
  have hb1 : (0 : Int) ≤ (i : Int) + 1 := by omega
  have hin : i ≤ n := by omega
  have htn : ((i : Int) + 1).toNat = i + 1 := by omega
  have hb2 : ¬ (C = i + 1) := by omega
  have hb4 : ¬ (c = i) := by omega
  have hb5 : ¬ (C = i) := by omega
  go_enter Try.func71, Try.ntmps71
  go_wp2_with (first
    | (at_builtin; refine Lib.wpList_append_run _ rfl _ _ _ _ rfl _ _ rfl rfl _ _ (hrz _) ?_)
    | (at_builtin; refine wpList_copy_runI _ rfl _ _ 108 108 rfl _ _ rfl rfl (hcp1 _ _) ?_))
  go_region_law_o (refine step_copy_runI rfl _ _ 108 108 rfl (.slice (some ⟨N, (i + 1) * 4, none⟩) (n - i) (C - (i + 1))) (.slice (some ⟨b, off + i * 4, none⟩) (n - i) (c - i)) (by simp [Act.eval, Act.put]) (by simp [Act.eval, Act.put]) (hcp2 3 (C - (i + 1)) (c - i)) ?_)
  go_wp2
  go_ret
  exact ⟨rfl, rfl⟩
theorem overlaps_no (w : World) (a b : Addr) (lb cb vc : Nat) (tA tB : TypeId) (kA kB : Nat) (hne : a.block ≠ b.block) (hsa : w.shape? a.block = some (tA, kA)) (hsb : w.shape? b.block = some (tB, kB)) (hkB : kB ≠ 0) (hfa : w.frozen? a = false) (hfe : w.frozen? { block := a.block, off := kA } = false) :
    (callFunc 85 #[.slice (some a) 1 vc, .slice (some b) lb cb]).run Try.prog w = .ok (.value (.bool false)) w := by
  rw [run_callFunc_extern Try.func85 (by kernel_rfl) (by kernel_rfl) (by kernel_rfl) (e := Extern.SlicesOverlaps.overlaps #[108, 108] #[4]) (by kernel_rfl),
    Lib.run_overlaps_apart w 108 4 120 Try.underlying108 4 Try.sizeOf120 a b 1 vc lb cb hne tA tB kA kB hsa hsb hkB hfa hfe]
  rfl
theorem pins_ok : SpecOk Try.prog 71 (insF shQ).f :=
  ins_ok (T := 108) (e0 := 120) (tn := 3) (ov := 85) (z := .agg #[.int .i64 0, .int .i64 0, .string ⟨#[]⟩, .bool false]) (by_ := 40) Try.underlying108 Try.underlying3 (by kernel_rfl) (by kernel_rfl) (by kernel_rfl) (by decide) (by omega) (by omega) ins_end ins_shift ins_grow overlaps_no
end Go.Proofs.Ytcbojoeijpeadaa
