/- Walks, by the kit's own steps: slices.Insert and slices.Delete of one element, strings held against one another. -/
import Derived.Test.YtkfdfenaaidkkaaSyDel
import Derived.Test.YtkfdfenaaidkkaaPvJ
import Derived.Test.YtkfdfenaaidkkaaProg
import Derived.Shelf.Spec.SlicesInsertGrow
import Derived.Shelf.Small.Strs
import Derived.KernelRfl
set_option linter.unusedVariables false
set_option linter.unusedSimpArgs false
namespace Go.Proofs.Ytkfdfenaaidkkaa
open Go Go.RowKit Go.Lib Go.Sy
set_option maxHeartbeats 4000000 in
set_option maxRecDepth 100000 in
theorem ins_end (base : Option Addr) (n c : Nat) (vb : Addr) (vc : Nat) (w w' : World) (r : Value) (hnc : n ≤ c) (hnil : base = none → n = 0 ∧ c = 0) (hsp : ∀ a, base = some a → a.spot = none)
   (hrun : ∀ ty, (Builtin.append_ #[78, 78] ty #[.slice base n c, .slice (some vb) 1 vc]).run Try.prog w = .ok r w') :
   Calls Try.prog 45 #[.slice base n c, .int .i64 n, .slice (some vb) 1 vc] w fun e w'' => e = .returned r ∧ w'' = w' := by
  go_enter Try.func45, Try.ntmps45
  cases base with
  | none =>
    obtain ⟨rfl, rfl⟩ := hnil rfl
    go_wp2_with (at_builtin; refine Lib.wpList_append_run _ rfl _ _ _ _ rfl _ _ rfl rfl _ _ (hrun _) ?_)
    go_ret
    exact ⟨rfl, rfl⟩
  | some a =>
    obtain ⟨ab, ao, asp⟩ := a
    go_wp2_with (at_builtin; refine Lib.wpList_append_run _ rfl _ _ _ _ rfl _ _ rfl rfl _ _ (hrun _) ?_)
    all_goals (go_ret; exact ⟨rfl, rfl⟩)
set_option maxHeartbeats 4000000 in
set_option maxRecDepth 100000 in
theorem ins_shift (b off n c i : Nat) (vb : Addr) (vc : Nat) (w W1 W2 : World) (r1 r2 : Value) (hi : i < n) (hroom : n + 1 ≤ c) (hn9 : n ≤ 1000000000)
   (hov : ∀ lb cb, (callFunc 52 #[.slice (some vb) 1 vc, .slice (some ⟨b, off + (i + 1) * 2, none⟩) lb cb]).run Try.prog w = .ok (.value (.bool false)) w)
   (hcp1 : ∀ ty dc sc, (Builtin.copy_ #[78, 78] ty #[.slice (some ⟨b, off + (i + 1) * 2, none⟩) (n - i) dc, .slice (some ⟨b, off + i * 2, none⟩) (n + 1 - i) sc]).run Try.prog w.drew = .ok r1 W1)
   (hcp2 : ∀ ty dc, (Builtin.copy_ #[78, 78] ty #[.slice (some ⟨b, off + i * 2, none⟩) (n + 1 - i) dc, .slice (some vb) 1 vc]).run Try.prog W1 = .ok r2 W2) :
   Calls Try.prog 45 #[.slice (some ⟨b, off, none⟩) n c, .int .i64 i, .slice (some vb) 1 vc] w fun e w' => e = .returned (.slice (some ⟨b, off, none⟩) (n + 1) c) ∧ w' = W2 := by
  have mixed : Try.prog.follows .mixedOrders = true := by kernel_rfl
  have hz1 : ¬ ((1 : Int) = 0) := by omega
  have hz2 : ¬ ((i : Int) = (n : Int)) := by omega
  have hw1 : IntKind.i64.wrap ((i : Int) + 1) = (i : Int) + 1 := by rw [IntKind.wrap_i64]; omega
  have hw2 : IntKind.i64.wrap ((n : Int) + 1) = (n : Int) + 1 := by rw [IntKind.wrap_i64]; omega
  have hb1 : (0 : Int) ≤ (i : Int) + 1 := by omega
  have hin : i ≤ n := by omega
  have htn : ((i : Int) + 1).toNat = i + 1 := by omega
  have htn2 : ((n : Int) + 1).toNat = n + 1 := by omega
  have hb2 : ¬ (c = i + 1) := by omega
  have hb3 : (i : Int) ≤ (n : Int) + 1 := by omega
  have hb4 : ¬ (c = i) := by omega
  go_enter Try.func45, Try.ntmps45
  go_wp2_with (simp only [hov])
  go_region_law_o (refine step_copy_runI rfl _ _ 78 78 rfl _ _ (by simp [Act.eval, Act.put]) (by simp [Act.eval, Act.put]) (hcp1 _ _ _) ?_)
  go_wp2_with (at_builtin; refine wpList_copy_runI _ rfl _ _ 78 78 rfl _ _ rfl rfl (hcp2 _ _) ?_)
  go_ret
  exact ⟨rfl, rfl⟩
set_option maxHeartbeats 4000000 in
set_option maxRecDepth 100000 in
theorem ins_grow (b off n c i N C : Nat) (vb : Addr) (vc : Nat) (w W1 W2 W3 : World) (r2 r3 : Value) (hi : i < n) (hnc : n ≤ c) (hroom : c < n + 1) (hbig : n ≤ 1000000000) (hC : n + 1 ≤ C)
   (hrz : ∀ ty, (Builtin.append_ #[78, 3] ty #[.slice (some ⟨b, off, none⟩) i c, .int .i64 ((n : Int) + 1 - (i : Int))]).run Try.prog w = .ok (.slice (some ⟨N, 0, none⟩) (n + 1) C) W1)
   (hcp1 : ∀ ty dc, (Builtin.copy_ #[78, 78] ty #[.slice (some ⟨N, i * 2, none⟩) (n + 1 - i) dc, .slice (some vb) 1 vc]).run Try.prog W1 = .ok r2 W2)
   (hcp2 : ∀ ty dc sc, (Builtin.copy_ #[78, 78] ty #[.slice (some ⟨N, (i + 1) * 2, none⟩) (n - i) dc, .slice (some ⟨b, off + i * 2, none⟩) (n - i) sc]).run Try.prog W2.drew = .ok r3 W3) :
   Calls Try.prog 45 #[.slice (some ⟨b, off, none⟩) n c, .int .i64 i, .slice (some vb) 1 vc] w fun e w' => e = .returned (.slice (some ⟨N, 0, none⟩) (n + 1) C) ∧ w' = W3 := by
  have mixed : Try.prog.follows .mixedOrders = true := by kernel_rfl
  have hz1 : ¬ ((1 : Int) = 0) := by omega
  have hz2 : ¬ ((i : Int) = (n : Int)) := by omega
  have hz3 : (c : Int) < (n : Int) + 1 := by omega
  have hw1 : IntKind.i64.wrap ((i : Int) + 1) = (i : Int) + 1 := by rw [IntKind.wrap_i64]; omega
  have hw2 : IntKind.i64.wrap ((n : Int) + 1) = (n : Int) + 1 := by rw [IntKind.wrap_i64]; omega
  have hw3 : IntKind.i64.wrap ((n : Int) + 1 - (i : Int)) = (n : Int) + 1 - (i : Int) := by rw [IntKind.wrap_i64]; omega
  have hb1 : (0 : Int) ≤ (i : Int) + 1 := by omega
  have hin : i ≤ n := by omega
  have htn : ((i : Int) + 1).toNat = i + 1 := by omega
  have hb2 : ¬ (C = i + 1) := by omega
  have hb4 : ¬ (c = i) := by omega
  have hb5 : ¬ (C = i) := by omega
  go_enter Try.func45, Try.ntmps45
  go_wp2_with (first
    | (at_builtin; refine Lib.wpList_append_run _ rfl _ _ _ _ rfl _ _ rfl rfl _ _ (hrz _) ?_)
    | (at_builtin; refine wpList_copy_runI _ rfl _ _ 78 78 rfl _ _ rfl rfl (hcp1 _ _) ?_))
  go_region_law_o (refine step_copy_runI rfl _ _ 78 78 rfl (.slice (some ⟨N, (i + 1) * 2, none⟩) (n - i) (C - (i + 1))) (.slice (some ⟨b, off + i * 2, none⟩) (n - i) (c - i)) (by simp [Act.eval, Act.put]) (by simp [Act.eval, Act.put]) (hcp2 3 (C - (i + 1)) (c - i)) ?_)
  go_wp2
  go_ret
  exact ⟨rfl, rfl⟩
theorem step_append_runI {P : Program} {ops : Array Oper} {o : Oper} {a : Act} {w : World} {K : Act → World → Prop} {Q : Exit → Act → World → Prop} {E : Prop}
    (hg : o.guard = none) (d x : Operand) (dT sT : TypeId) (hop : o.op = Op.call { callee := Callee.builtin Builtin.append, args := #[d, x], argTypes := #[dT, sT] })
    (v u : Value) (hd : a.eval d = v) (hx : a.eval x = u) {v' : Value} {w' : World} (hr : (Builtin.append_ #[dT, sT] o.type #[v, u]).run P w = .ok v' w') (hK : K (a.put o.dst v') w') :
    if Region.wanted o (yielded ops a.tmps) = true then Oper.wp P o a w K Q else E := by
  have hw : Region.wanted o (yielded ops a.tmps) = true := by simp [Region.wanted, hg]
  rw [if_pos hw]
  unfold Oper.wp
  simp [execOp, hop, resolve, invoke, builtin, hd, hx, hr, Result.andThen]
  exact hK
theorem wp_clear_runI {P : Program} (w : World) {o : Oper} {a : Act} {K : Act → World → Prop} {Q : Exit → Act → World → Prop} (d : Operand) (t : TypeId)
    (ho : o.op = .call { callee := .builtin .clear, args := #[d], argTypes := #[t] }) (v : Value) (hd : a.eval d = v) {v' : Value} {w' : World}
    (hr : (Builtin.clear_ #[t] o.type #[v]).run P w = .ok v' w') (h : K (a.put o.dst v') w') : o.wp P a w K Q := by
  unfold Oper.wp execOp
  simp only [ho, resolve, invoke, builtin, Sem.run_bind, Sem.run_pure, Result.andThen_ok, List.map_toArray, List.map_cons, List.map_nil, hd, hr]
  exact h
theorem wpList_clear_runI {P : Program} (w : World) {ops : Array Oper} {rest : List Oper} {o : Oper} {a : Act} {Q : Exit → Act → World → Prop} (hgd : o.guard = none) (d : Operand) (t : TypeId)
    (ho : o.op = .call { callee := .builtin .clear, args := #[d], argTypes := #[t] }) (v : Value) (hd : a.eval d = v) {v' : Value} {w' : World}
    (hr : (Builtin.clear_ #[t] o.type #[v]).run P w = .ok v' w') (h : wpList P ops Q rest (a.put o.dst v') w') : wpList P ops Q (o :: rest) a w :=
  wpList_plain hgd fun _ hK => wp_clear_runI w d t ho v hd hr (hK _ _ h)
set_option maxHeartbeats 4000000 in
set_option maxRecDepth 100000 in
theorem del_walk (b off n c i : Nat) (w W1 W2 : World) (r2 : Value) (hi : i < n) (hnc : n ≤ c) (hic : i + 1 < c) (hbig : n ≤ 1000000000)
   (happ : ∀ ty sc, (Builtin.append_ #[78, 78] ty #[.slice (some ⟨b, off, none⟩) i c, .slice (some ⟨b, off + (i + 1) * 2, none⟩) (n - (i + 1)) sc]).run Try.prog w.drew = .ok (.slice (some ⟨b, off, none⟩) (n - 1) c) W1)
   (hclr : ∀ ty sc, (Builtin.clear_ #[78] ty #[.slice (some ⟨b, off + (n - 1) * 2, none⟩) 1 sc]).run Try.prog W1 = .ok r2 W2) :
   Calls Try.prog 46 #[.slice (some ⟨b, off, none⟩) n c, .int .i64 i, .int .i64 ((i : Int) + 1)] w fun e w' => e = .returned (.slice (some ⟨b, off, none⟩) (n - 1) c) ∧ w' = W2 := by
  have mixed : Try.prog.follows .mixedOrders = true := by kernel_rfl
  have hz2 : ¬ ((i : Int) = (i : Int) + 1) := by omega
  have hb1 : (0 : Int) ≤ (i : Int) + 1 := by omega
  have hin : i ≤ n := by omega
  have htn : ((i : Int) + 1).toNat = i + 1 := by omega
  have hb2 : ¬ (c = i + 1) := by omega
  have hb3 : (i : Int) + 1 ≤ (n : Int) := by omega
  have hb4 : ¬ (c = i) := by omega
  have hb5 : ¬ (c = n - 1) := by omega
  have hb6 : n - (n - 1) = 1 := by omega
  have hb7 : n - 1 ≤ n := by omega
  have hb9 : i ≤ c := by omega
  have hb10 : ((n : Int) - 1).toNat = n - 1 := by omega
  have hb11 : n - 1 ≤ c := by omega
  have hb8 : (((n - 1 : Nat) : Int)) ≤ (n : Int) := by omega
  go_enter Try.func46, Try.ntmps46
  go_wp2
  go_region_law_o (refine step_append_runI rfl _ _ 78 78 rfl (.slice (some ⟨b, off, none⟩) i c) (.slice (some ⟨b, off + (i + 1) * 2, none⟩) (n - (i + 1)) (c - (i + 1))) (by simp [Act.eval, Act.put]) (by simp [Act.eval, Act.put]) (happ 78 (c - (i + 1))) ?_)
  go_wp2_with (at_builtin; refine wpList_clear_runI _ rfl _ 78 rfl (.slice (some ⟨b, off + (n - 1) * 2, none⟩) 1 (c - (n - 1))) rfl (hclr _ _) ?_)
  go_ret
  exact ⟨rfl, rfl⟩
set_option maxHeartbeats 4000000 in
set_option maxRecDepth 100000 in
theorem del_last (b off i : Nat) (w W1 W2 : World) (r2 : Value) (hbig : i ≤ 1000000000)
   (happ : ∀ ty, (Builtin.append_ #[78, 78] ty #[.slice (some ⟨b, off, none⟩) i (i + 1), .slice (some ⟨b, off, none⟩) 0 0]).run Try.prog w.drew = .ok (.slice (some ⟨b, off, none⟩) i (i + 1)) W1)
   (hclr : ∀ ty sc, (Builtin.clear_ #[78] ty #[.slice (some ⟨b, off + i * 2, none⟩) 1 sc]).run Try.prog W1 = .ok r2 W2) :
   Calls Try.prog 46 #[.slice (some ⟨b, off, none⟩) (i + 1) (i + 1), .int .i64 i, .int .i64 ((i : Int) + 1)] w fun e w' => e = .returned (.slice (some ⟨b, off, none⟩) i (i + 1)) ∧ w' = W2 := by
  have mixed : Try.prog.follows .mixedOrders = true := by kernel_rfl
  have hz2 : ¬ ((i : Int) = (i : Int) + 1) := by omega
  have hb1 : (0 : Int) ≤ (i : Int) + 1 := by omega
  have htn : ((i : Int) + 1).toNat = i + 1 := by omega
  have hb4 : ¬ (i + 1 = i) := by omega
  have hb9 : i ≤ i + 1 := by omega
  have hb6 : i + 1 - i = 1 := by omega
  have hb12 : ((i : Int)) ≤ (i : Int) + 1 := by omega
  go_enter Try.func46, Try.ntmps46
  go_wp2
  go_region_law_o (refine step_append_runI rfl _ _ 78 78 rfl (.slice (some ⟨b, off, none⟩) i (i + 1)) (.slice (some ⟨b, off, none⟩) 0 0) (by simp [Act.eval, Act.put]) (by simp [Act.eval, Act.put]) (happ 78) ?_)
  go_wp2_with (at_builtin; refine wpList_clear_runI _ rfl _ 78 rfl (.slice (some ⟨b, off + i * 2, none⟩) 1 1) rfl (hclr _ _) ?_)
  go_ret
  exact ⟨rfl, rfl⟩


theorem overlaps_no (w : World) (a b : Addr) (lb cb vc : Nat) (tA tB : TypeId) (kA kB : Nat) (hne : a.block ≠ b.block) (hsa : w.shape? a.block = some (tA, kA)) (hsb : w.shape? b.block = some (tB, kB)) (hkB : kB ≠ 0) (hfa : w.frozen? a = false) (hfe : w.frozen? { block := a.block, off := kA } = false) :
    (callFunc 52 #[.slice (some a) 1 vc, .slice (some b) lb cb]).run Try.prog w = .ok (.value (.bool false)) w := by
  rw [run_callFunc_extern Try.func52 (by kernel_rfl) (by kernel_rfl) (by kernel_rfl) (e := Extern.SlicesOverlaps.overlaps #[78, 78] #[4]) (by kernel_rfl),
    Lib.run_overlaps_apart w 78 4 77 Try.underlying78 2 Try.sizeOf77 a b 1 vc lb cb hne tA tB kA kB hsa hsb hkB hfa hfe]
  rfl
theorem pins_ok : SpecOk Try.prog 45 (insF shP).f :=
  ins_ok (T := 78) (e0 := 77) (tn := 3) (ov := 52) (z := .agg #[.string ⟨#[]⟩, .int .i64 0]) (by_ := 24) Try.underlying78 Try.underlying3 (by kernel_rfl) (by kernel_rfl) (by kernel_rfl) (by decide) (by omega) (by omega) ins_end ins_shift ins_grow overlaps_no
theorem pdel_ok : SpecOk Try.prog 46 (delF shP).f :=
  del_ok (T := 78) (e0 := 77) Try.underlying78 (by kernel_rfl) (by decide) del_walk del_last
theorem compareBytes_c3 : ∀ a b : List UInt8, Lib.compareBytes a b = c3 a b
  | [], [] => by decide
  | [], _ :: _ => by rfl
  | _ :: _, [] => by rfl
  | x :: a, y :: b => by
    have ih := compareBytes_c3 a b
    show (if x < y then (-1 : Int) else if y < x then 1 else Lib.compareBytes a b) = _
    by_cases h1 : x < y
    · have h1' := UInt8.lt_iff_toNat_lt.mp h1
      simp [c3, ltBytes_cons, h1, h1']
    · by_cases h2 : y < x
      · have h2' := UInt8.lt_iff_toNat_lt.mp h2
        have hne : ¬ x.toNat = y.toNat := by omega
        have hlt : ¬ x.toNat < y.toNat := by omega
        have hne2 : ¬ x = y := fun e => hne (by rw [e])
        simp [c3, ltBytes_cons, eqBytes_eq, h1, h2, hne, hlt, hne2]
      · have e1 : x = y := UInt8.toNat_inj.mp (by have := mt UInt8.lt_iff_toNat_lt.mpr h1; have := mt UInt8.lt_iff_toNat_lt.mpr h2; omega)
        subst e1
        simp [c3, ltBytes_cons, eqBytes_eq, ih]
set_option maxRecDepth 100000 in
theorem cmpstr_walk (a b : ByteArray) (w : World) : Calls Try.prog 49 #[.string a, .string b] w fun e w' => e = .returned (.int .i64 (Lib.compareBytes a.data.toList b.data.toList)) ∧ w' = w := by
  go_enter Try.func49, Try.ntmps49
  go_wp2
  rw [run_callFunc_extern Try.func55 (by kernel_rfl) (by kernel_rfl) (by kernel_rfl) (e := Extern.BytealgCompare.compare) (by kernel_rfl), Lib.run_compareString]
  simp only [Result.andThen]
  rw [Oper.upon_value]
  go_wp2
  go_ret
  exact ⟨rfl, rfl⟩
theorem pcmpstr_ok : SpecOk Try.prog 49 cmpSF.f := specOk_comes fun args s v s' tch e => by
  simp only [cmpSF] at e
  split at e
  · rename_i a b
    obtain ⟨hg, rfl, rfl, rfl⟩ := run_ok e
    refine ⟨Nat.le_refl _, fun ρ w vargs hi hr => ?_⟩
    simp only [Rels, Rel] at hr
    obtain ⟨v1, vs, rfl, rfl, v2, vs, rfl, rfl, rfl⟩ := hr
    refine (cmpstr_walk ⟨a.toArray⟩ ⟨b.toArray⟩ w).mono ?_
    rintro e w' ⟨rfl, rfl⟩
    exact ⟨_, ρ, rfl, PostC.refl hi (Nat.le_refl _), by simp only [Rel, compareBytes_c3]⟩
  · cases e
end Go.Proofs.Ytkfdfenaaidkkaa
