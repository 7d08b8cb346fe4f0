/- Walks: names, numbers' texts, rows. -/
import Derived.Test.YthcekejmeoaelaaDoorValA
set_option linter.unusedSimpArgs false
set_option linter.unusedVariables false
set_option maxRecDepth 100000
namespace Go.Proofs.YthcekejmeoaelaaDoor
open Go Go.Sy
attribute [local irreducible] bodyK roundK
def prNm : FuncId → Option Sy.Spec := addP 39 digF (addP 40 keyF (addP 41 letF noP))
def kNm : List Keep := [.yes, .no, .yes, .no, .no, .no, .no, .no, .no, .no, .no, .no, .no, .no, .no, .no, .no, .no, .no, .no, .no, .yes, .yes]
def tNm (c : List UInt8) (b : Bool) (i : Nat) : List AV := [.str c, .any, .bool b, .any, .any, .any, .any, .any, .any, .any, .any, .any, .any, .any, .any, .any, .any, .any, .any, .any, .any, .int .i64 c.length, .int .i64 i] ++ padAny 15
theorem pname_round (c : List UInt8) (i : Nat) (more : List AV → St → Prop) (kk : KS) : roundK Tryd.prog prNm noL 100 27 0 (tNm c false i) [] (againK 0 0 kNm kNm more kk) =
  br (decide ((↑i : Int) < (↑c.length : Int)))
    (br (decide ((0 : Int) ≤ (↑i : Int)) && decide ((↑i : Int) < (↑c.length : Int)))
      (br (!ltrI (↑(c.getD (↑i : Int).toNat (0 : UInt8)).toNat : Int))
        (br (decide ((0 : Int) ≤ (↑i : Int)) && decide ((↑i : Int) < (↑c.length : Int)))
          (br (!digI (↑(c.getD (↑i : Int).toNat (0 : UInt8)).toNat : Int))
            (kk Ex.ret ([AV.str c, .any, AV.bool false, .any, .any, .any, .any, .any, .any, .any, .any, .any, .any, .any, .any, .any, .any, .any, .any, .any, .any, AV.int IntKind.i64 (↑c.length : Int), AV.int IntKind.i64 (↑i : Int)] ++ padAny 15) [])
            (more ([AV.str c, .any, AV.bool false, .any, .any, .any, .any, .any, .any, .any, .any, .any, .any, .any, .any, .any, .any, .any, .any, .any, .any, AV.int IntKind.i64 (↑c.length : Int), AV.int IntKind.i64 (IntKind.i64.wrap ((↑i : Int) + (1 : Int)))] ++ padAny 15) []))
          (False))
        (more ([AV.str c, .any, AV.bool false, .any, .any, .any, .any, .any, .any, .any, .any, .any, .any, .any, .any, .any, .any, .any, .any, .any, .any, AV.int IntKind.i64 (↑c.length : Int), AV.int IntKind.i64 (IntKind.i64.wrap ((↑i : Int) + (1 : Int)))] ++ padAny 15) []))
      (False))
    (kk Ex.normal ([AV.str c, .any, AV.bool false, .any, .any, .any, .any, .any, .any, .any, .any, .any, .any, .any, .any, .any, .any, .any, .any, .any, .any, AV.int IntKind.i64 (↑c.length : Int), AV.int IntKind.i64 (↑i : Int)] ++ padAny 15) []) := by kernel_rfl
theorem pname_body (c : List UInt8) (G : LoopS) (k : AV → St → Prop) : bodyK Tryd.prog prNm (addL 0 (headG 0 kNm G) noL) 100 27 [] [.str c] [] k  =
  br (eqBytes c [])
    (k (AV.bool false) [])
    (br (decide ((↑c.length : Int) > (12 : Int)))
      (k (AV.bool false) [])
      (br (decide ((0 : Int) < (↑c.length : Int)))
        (br (digI (↑(c.getD (0 : Nat) (0 : UInt8)).toNat : Int))
          (k (AV.bool false) [])
          (br (isKey c)
            (k (AV.bool false) [])
            (G (([AV.str c, .any, AV.bool false, .any, .any, .any, .any, .any, .any, .any, .any, .any, .any, .any, .any, .any, .any, .any, .any, .any, .any, AV.int IntKind.i64 (↑c.length : Int), AV.int IntKind.i64 (0 : Int)] ++ padAny 15)) ([]) (contB Tryd.prog prNm (addL 0 (headG 0 kNm G) noL) 100 27 [] [] 0 k))))
        (False))) := by kernel_rfl
theorem pname_end (c : List UInt8) (i : Nat) (F : LoopS) (k : AV → St → Prop) : contB Tryd.prog prNm (addL 0 F noL) 100 27 [] [] 0 k .normal (tNm c false i) [] =
  k (AV.bool true) [] := by kernel_rfl
theorem pname_ret (c : List UInt8) (b : Bool) (i : Nat) (F : LoopS) (k : AV → St → Prop) : contB Tryd.prog prNm (addL 0 F noL) 100 27 [] [] 0 k .ret (tNm c b i) [] =
  k (AV.bool b) [] := by kernel_rfl
def MPN (c : List UInt8) (z : Nat) (t : List AV) (s : St) (k : KS) : Prop := ∃ i : Nat, z + i = c.length ∧ t = tNm c false i ∧ s = [] ∧
  match lettersOk (c.drop i) with
  | true => ∀ j : Nat, k .normal (tNm c false j) []
  | false => ∀ j : Nat, k .ret (tNm c false j) []
theorem pname_step (c : List UInt8) (hc : c.length < 1000) : ∀ z t s k, MPN c z t s k → roundK Tryd.prog prNm noL 100 27 0 t s (againK 0 0 kNm kNm (fun t' s' => ∃ z', z' < z ∧ MPN c z' t' s' k) k) := by
  rintro z t s k ⟨i, hz, rfl, rfl, hk⟩
  rw [pname_round]
  refine br_iff.2 ⟨fun h1 => ?_, fun h1 => ?_⟩
  · have hin : (decide ((0 : Int) ≤ (↑i : Int)) && decide ((↑i : Int) < (↑c.length : Int))) = true := by simp; omega
    rw [drop_get (d := 0) (show i < c.length by omega)] at hk
    simp only [Int.toNat_natCast]
    have hw : (i : Int) + 1 = ((i + 1 : Nat) : Int) := by omega
    cases p1 : ltrI ((c.getD i 0).toNat : Int) <;> cases p2 : digI ((c.getD i 0).toNat : Int) <;> simp only [lettersOk, letB, digB, p1, p2, Bool.or_true, Bool.true_or, Bool.or_false, Bool.false_and, Bool.true_and] at hk
    · exact br_t hin (br_t rfl (br_t hin (br_t rfl (hk i))))
    · refine br_t hin (br_t rfl (br_t hin ?_))
      refine ⟨c.length - (i + 1), by omega, i + 1, by omega, ?_, rfl, hk⟩
      simp only [tNm, wrap64 (x := (i : Int) + 1) (by omega) (by omega)]
      simp
    · refine br_t hin ?_
      refine ⟨c.length - (i + 1), by omega, i + 1, by omega, ?_, rfl, hk⟩
      simp only [tNm, wrap64 (x := (i : Int) + 1) (by omega) (by omega)]
      simp
    · refine br_t hin ?_
      refine ⟨c.length - (i + 1), by omega, i + 1, by omega, ?_, rfl, hk⟩
      simp only [tNm, wrap64 (x := (i : Int) + 1) (by omega) (by omega)]
      simp
  · rw [List.drop_eq_nil_of_le (by omega)] at hk
    exact hk i
theorem pname_ok : SpecOk Tryd.prog 27 nameF.f := specOk_comes fun args s v s' tch e => by
  simp only [nameF] at e
  split at e
  · rename_i c
    obtain ⟨hg, rfl, rfl, rfl⟩ := run_ok e
    have hg := of_decide_eq_true hg
    have hd : distinctOk Tryd.prog 27 = true := by kernel_rfl
    have hpr : PrOk Tryd.prog prNm := prOk_add digP_ok (prOk_add key_ok (prOk_add letP_ok prOk_none))
    refine comes_of ok hpr (L := 100) (ms := []) hd (loops_add (L := 100) (kh := kNm) ok hpr hd loops_none (pname_step c hg)) ?_
    refine Eq.mpr (pname_body c _ _) ?_
    by_cases h0 : c = []
    · subst h0; exact br_t rfl ⟨rfl, rfl⟩
    have hp : 0 < c.length := List.length_pos_iff.2 h0
    rw [nameV_some hp]
    refine br_mk (fun h => absurd h (by rw [eqBytes_ne h0]; simp)) (fun _ => br_iff.2 ⟨fun h => ⟨?_, rfl⟩, fun h1 => br_t (by simp; omega) (br_mk (fun h => ⟨?_, rfl⟩) (fun h2 => br_mk (fun h => ⟨?_, rfl⟩) (fun h3 => ?_)))⟩)
    · rw [decide_eq_false (by omega)]; rfl
    · rw [h]; simp
    · rw [h]; simp
    · have e1 : decide (c.length ≤ 12) = true := decide_eq_true (by omega)
      rw [h2, h3, e1]
      refine ⟨c.length, 0, by omega, rfl, rfl, ?_⟩
      rw [List.drop_zero]
      cases h : lettersOk c with
      | true => intro j; rw [pname_end]; exact ⟨rfl, rfl⟩
      | false => intro j; rw [pname_ret]; exact ⟨rfl, rfl⟩
  · cases e
def prRN : FuncId → Option Sy.Spec := addP 42 digF (addP 43 keyF (addP 44 letF noP))
def kRN : List Keep := [.yes, .no, .yes, .yes]
def tRN (c : List UInt8) (b : Bool) (i : Nat) : List AV := [.str c, .any, .bool b, .int .i64 i] ++ padAny 35
theorem rname_round (c : List UInt8) (i : Nat) (more : List AV → St → Prop) (kk : KS) : roundK Tryd.prog prRN noL 100 28 0 (tRN c false i) [] (againK 0 0 kRN kRN more kk) =
  br (decide ((↑i : Int) < (↑c.length : Int)))
    (br (decide ((0 : Int) ≤ (↑i : Int)) && decide ((↑i : Int) < (↑c.length : Int)))
      (br (!ltrI (↑(c.getD (↑i : Int).toNat (0 : UInt8)).toNat : Int))
        (br (decide ((0 : Int) ≤ (↑i : Int)) && decide ((↑i : Int) < (↑c.length : Int)))
          (br (!digI (↑(c.getD (↑i : Int).toNat (0 : UInt8)).toNat : Int))
            (kk Ex.ret ([AV.str c, .any, AV.bool false, AV.int IntKind.i64 (↑i : Int)] ++ padAny 35) [])
            (more ([AV.str c, .any, AV.bool false, AV.int IntKind.i64 (IntKind.i64.wrap ((↑i : Int) + (1 : Int)))] ++ padAny 35) []))
          (False))
        (more ([AV.str c, .any, AV.bool false, AV.int IntKind.i64 (IntKind.i64.wrap ((↑i : Int) + (1 : Int)))] ++ padAny 35) []))
      (False))
    (kk Ex.normal ([AV.str c, .any, AV.bool false, AV.int IntKind.i64 (↑i : Int)] ++ padAny 35) []) := by kernel_rfl
theorem rname_body (c : List UInt8) (G : LoopS) (k : AV → St → Prop) : bodyK Tryd.prog prRN (addL 0 (headG 0 kRN G) noL) 100 28 [] [.str c] [] k  =
  br (decide ((↑c.length : Int) < (1 : Int)))
    (k (AV.bool false) [])
    (br (decide ((↑c.length : Int) > (12 : Int)))
      (k (AV.bool false) [])
      (br (decide ((0 : Int) < (↑c.length : Int)))
        (br (digI (↑(c.getD (0 : Nat) (0 : UInt8)).toNat : Int))
          (k (AV.bool false) [])
          (br (isKey c)
            (k (AV.bool false) [])
            (G (([AV.str c, .any, AV.bool false, AV.int IntKind.i64 (0 : Int)] ++ padAny 35)) ([]) (contB Tryd.prog prRN (addL 0 (headG 0 kRN G) noL) 100 28 [] [] 0 k))))
        (False))) := by kernel_rfl
theorem rname_end (c : List UInt8) (i : Nat) (F : LoopS) (k : AV → St → Prop) : contB Tryd.prog prRN (addL 0 F noL) 100 28 [] [] 0 k .normal (tRN c false i) [] =
  k (AV.bool true) [] := by kernel_rfl
theorem rname_ret (c : List UInt8) (b : Bool) (i : Nat) (F : LoopS) (k : AV → St → Prop) : contB Tryd.prog prRN (addL 0 F noL) 100 28 [] [] 0 k .ret (tRN c b i) [] =
  k (AV.bool b) [] := by kernel_rfl
def MRN (c : List UInt8) (z : Nat) (t : List AV) (s : St) (k : KS) : Prop := ∃ i : Nat, z + i = c.length ∧ t = tRN c false i ∧ s = [] ∧
  match lettersOk (c.drop i) with
  | true => ∀ j : Nat, k .normal (tRN c false j) []
  | false => ∀ j : Nat, k .ret (tRN c false j) []
theorem rname_step (c : List UInt8) (hc : c.length < 1000) : ∀ z t s k, MRN c z t s k → roundK Tryd.prog prRN noL 100 28 0 t s (againK 0 0 kRN kRN (fun t' s' => ∃ z', z' < z ∧ MRN c z' t' s' k) k) := by
  rintro z t s k ⟨i, hz, rfl, rfl, hk⟩
  rw [rname_round]
  refine br_iff.2 ⟨fun h1 => ?_, fun h1 => ?_⟩
  · have hin : (decide ((0 : Int) ≤ (↑i : Int)) && decide ((↑i : Int) < (↑c.length : Int))) = true := by simp; omega
    rw [drop_get (d := 0) (show i < c.length by omega)] at hk
    simp only [Int.toNat_natCast]
    have hw : (i : Int) + 1 = ((i + 1 : Nat) : Int) := by omega
    cases p1 : ltrI ((c.getD i 0).toNat : Int) <;> cases p2 : digI ((c.getD i 0).toNat : Int) <;> simp only [lettersOk, letB, digB, p1, p2, Bool.or_true, Bool.true_or, Bool.or_false, Bool.false_and, Bool.true_and] at hk
    · exact br_t hin (br_t rfl (br_t hin (br_t rfl (hk i))))
    · refine br_t hin (br_t rfl (br_t hin ?_))
      refine ⟨c.length - (i + 1), by omega, i + 1, by omega, ?_, rfl, hk⟩
      simp only [tRN, wrap64 (x := (i : Int) + 1) (by omega) (by omega)]
      simp
    · refine br_t hin ?_
      refine ⟨c.length - (i + 1), by omega, i + 1, by omega, ?_, rfl, hk⟩
      simp only [tRN, wrap64 (x := (i : Int) + 1) (by omega) (by omega)]
      simp
    · refine br_t hin ?_
      refine ⟨c.length - (i + 1), by omega, i + 1, by omega, ?_, rfl, hk⟩
      simp only [tRN, wrap64 (x := (i : Int) + 1) (by omega) (by omega)]
      simp
  · rw [List.drop_eq_nil_of_le (by omega)] at hk
    exact hk i
theorem rname_ok : SpecOk Tryd.prog 28 nameF.f := specOk_comes fun args s v s' tch e => by
  simp only [nameF] at e
  split at e
  · rename_i c
    obtain ⟨hg, rfl, rfl, rfl⟩ := run_ok e
    have hg := of_decide_eq_true hg
    have hd : distinctOk Tryd.prog 28 = true := by kernel_rfl
    have hpr : PrOk Tryd.prog prRN := prOk_add digR_ok (prOk_add word_ok (prOk_add letR_ok prOk_none))
    refine comes_of ok hpr (L := 100) (ms := []) hd (loops_add (L := 100) (kh := kRN) ok hpr hd loops_none (rname_step c hg)) ?_
    refine Eq.mpr (rname_body c _ _) ?_
    by_cases h0 : c = []
    · subst h0; exact br_t (by simp) ⟨rfl, rfl⟩
    have hp : 0 < c.length := List.length_pos_iff.2 h0
    rw [nameV_some hp]
    refine br_mk (fun h => absurd h (by simp; omega)) (fun _ => br_iff.2 ⟨fun h => ⟨?_, rfl⟩, fun h1 => br_t (by simp; omega) (br_mk (fun h => ⟨?_, rfl⟩) (fun h2 => br_mk (fun h => ⟨?_, rfl⟩) (fun h3 => ?_)))⟩)
    · rw [decide_eq_false (by omega)]; rfl
    · rw [h]; simp
    · rw [h]; simp
    · have e1 : decide (c.length ≤ 12) = true := decide_eq_true (by omega)
      rw [h2, h3, e1]
      refine ⟨c.length, 0, by omega, rfl, rfl, ?_⟩
      rw [List.drop_zero]
      cases h : lettersOk c with
      | true => intro j; rw [rname_end]; exact ⟨rfl, rfl⟩
      | false => intro j; rw [rname_ret]; exact ⟨rfl, rfl⟩
  · cases e
/- ### the digits of a number -/
def kDg : List Keep := [.yes, .no, .no, .yes, .yes]
def tDg (n : Int) (u : Nat) (c : List UInt8) : List AV := [.int .i64 n, .any, .any, .int .u64 u, .str c] ++ padAny 23
theorem digs_round (n : Int) (u : Nat) (c : List UInt8) (more : List AV → St → Prop) (kk : KS) : roundK Tryd.prog noP noL 100 37 0 (tDg n u c) [] (againK 0 0 kDg kDg more kk) =
  br (([UInt8.ofNat (IntKind.u8.wrap (IntKind.u64.wrap ((48 : Int) + (↑u : Int).tmod (10 : Int)))).toNat].reverse.length + c.length).ble (9223372036854775807 : Nat))
    (br (decide (IntKind.u64.wrap ((↑u : Int).tdiv (10 : Int)) = (0 : Int)))
      (kk Ex.normal ([AV.int IntKind.i64 n, .any, .any, AV.int IntKind.u64 (IntKind.u64.wrap ((↑u : Int).tdiv (10 : Int))), AV.str ([UInt8.ofNat (IntKind.u8.wrap (IntKind.u64.wrap ((48 : Int) + (↑u : Int).tmod (10 : Int)))).toNat].reverse ++ c)] ++ padAny 23) [])
      (more ([AV.int IntKind.i64 n, .any, .any, AV.int IntKind.u64 (IntKind.u64.wrap ((↑u : Int).tdiv (10 : Int))), AV.str ([UInt8.ofNat (IntKind.u8.wrap (IntKind.u64.wrap ((48 : Int) + (↑u : Int).tmod (10 : Int)))).toNat].reverse ++ c)] ++ padAny 23) []))
    (False) := by kernel_rfl
theorem digs_body (n : Int) (G : LoopS) (k : AV → St → Prop) : bodyK Tryd.prog noP (addL 0 (headG 0 kDg G) noL) 100 37 [] [.int .i64 n] [] k  =
  br (decide (n < (0 : Int)))
    (G (([AV.int IntKind.i64 n, .any, .any, AV.int IntKind.u64 (IntKind.u64.wrap ((0 : Int) - IntKind.u64.wrap n)), AV.str []] ++ padAny 23)) ([]) (contB Tryd.prog noP (addL 0 (headG 0 kDg G) noL) 100 37 [] [] 0 k))
    (G (([AV.int IntKind.i64 n, .any, .any, AV.int IntKind.u64 (IntKind.u64.wrap n), AV.str []] ++ padAny 23)) ([]) (contB Tryd.prog noP (addL 0 (headG 0 kDg G) noL) 100 37 [] [] 0 k)) := by kernel_rfl
theorem digs_end (n : Int) (u : Nat) (c : List UInt8) (F : LoopS) (k : AV → St → Prop) : contB Tryd.prog noP (addL 0 F noL) 100 37 [] [] 0 k .normal (tDg n u c) [] =
  br (decide (n < (0 : Int)))
    (br (((1 : Nat) + c.length).ble (9223372036854775807 : Nat))
      (k (AV.str ([(45 : UInt8)] ++ c)) [])
      (False))
    (k (AV.str c) []) := by kernel_rfl
def MDg (n : Int) (R : List UInt8) (z : Nat) (t : List AV) (s : St) (k : KS) : Prop := ∃ c : List UInt8, z < 18446744073709551616 ∧ Lib.decDigits z ++ c = R ∧ t = tDg n z c ∧ s = [] ∧ k .normal (tDg n 0 R) []
theorem digs_step (n : Int) (R : List UInt8) (hR : R.length < 1000) : ∀ z t s k, MDg n R z t s k → roundK Tryd.prog noP noL 100 37 0 t s (againK 0 0 kDg kDg (fun t' s' => ∃ z', z' < z ∧ MDg n R z' t' s' k) k) := by
  rintro u t s k ⟨c, hu, hc, rfl, rfl, hk⟩
  rw [digs_round, dig_byte, dig_rest hu]
  have hl : c.length < 1000 := by rw [← hc, List.length_append] at hR; omega
  refine br_t (Nat.ble_eq_true_of_le (by simp; omega)) (br_iff.2 ⟨fun h => ?_, fun h => ?_⟩)
  · have h10 : u < 10 := by omega
    have e : u / 10 = 0 := by omega
    rw [decDigits_small h10] at hc
    rw [e, Nat.mod_eq_of_lt h10]
    simp only [List.reverse_singleton]
    rw [hc]
    exact hk
  · have h10 : ¬ u < 10 := by omega
    rw [decDigits_big h10, List.append_assoc] at hc
    exact ⟨u / 10, by omega, UInt8.ofNat (48 + u % 10) :: c, by omega, hc, rfl, rfl, hk⟩
theorem digs_ok : SpecOk Tryd.prog 37 digsF.f := specOk_comes fun args s v s' tch e => by
  simp only [digsF] at e
  split at e
  · rename_i n
    obtain ⟨hg, rfl, rfl, rfl⟩ := run_ok e
    simp only [in64, Bool.and_eq_true, decide_eq_true_eq] at hg
    have hd : distinctOk Tryd.prog 37 = true := by kernel_rfl
    have key : ∀ U : Nat, U < 18446744073709551616 → (n < 0 → U = n.natAbs) → (¬ n < 0 → U = n.toNat) → ∀ G : LoopS, (∀ z t s k, MDg n (Lib.decDigits U) z t s k → G t s k) → 
        G (tDg n U []) [] (contB Tryd.prog noP (addL 0 (headG 0 kDg G) noL) 100 37 [] [] 0 (fun v1 s1 => v1 = .str (itoaB n) ∧ s1 = [])) := fun U hU h1 h2 G hG => by
      refine hG U _ _ _ ⟨[], hU, by simp, rfl, rfl, ?_⟩
      rw [digs_end]
      have hlen : (Lib.decDigits U).length ≤ 20 := by rw [Lib.decDigits_length]; exact nDigits_le hU
      refine br_iff.2 ⟨fun h => br_t (Nat.ble_eq_true_of_le (by omega)) ⟨?_, rfl⟩, fun h => ⟨?_, rfl⟩⟩
      · rw [h1 h, itoaB, Lib.itoa, if_pos h]; rfl
      · rw [h2 h, itoaB, Lib.itoa, if_neg h]
    by_cases hn : n < 0
    · refine comes_of ok prOk_none (L := 100) (ms := []) hd (loops_add (L := 100) (kh := kDg) ok prOk_none hd loops_none (digs_step n (Lib.decDigits n.natAbs) (by rw [Lib.decDigits_length]; have := nDigits_le (u := n.natAbs) (by omega); omega))) ?_
      refine Eq.mpr (digs_body n _ _) (br_t (decide_eq_true hn) ?_)
      rw [u64_neg hg.1 hn]
      exact key n.natAbs (by omega) (fun _ => rfl) (fun h => absurd hn h) _ (fun z t s k h => ⟨z, h⟩)
    · refine comes_of ok prOk_none (L := 100) (ms := []) hd (loops_add (L := 100) (kh := kDg) ok prOk_none hd loops_none (digs_step n (Lib.decDigits n.toNat) (by rw [Lib.decDigits_length]; have := nDigits_le (u := n.toNat) (by omega); omega))) ?_
      refine Eq.mpr (digs_body n _ _) (br_iff.2 ⟨fun h => absurd h hn, fun _ => ?_⟩)
      have e : IntKind.u64.wrap n = ((n.toNat : Nat) : Int) := by rw [u64_wrap (by omega) (by omega)]; omega
      rw [e]
      exact key n.toNat (by omega) (fun h => absurd h hn) (fun _ => rfl) _ (fun z t s k h => ⟨z, h⟩)
  · cases e
/- ### rows -/
def prCF : FuncId → Option Sy.Spec := addP 15 cmpF noP
def kCF : List Keep := [.yes, .yes, .yes, .no, .no, .no, .yes, .no, .no, .no, .no, .yes, .yes, .yes]
def tCF (l m : List D) (r : Int) (i : Nat) : List AV := [.fz false shV l, .fz false shV m, .fn (.func 15) [] [], .any, .any, .any, .int .i64 r, .any, .any, .any, .any, .fz false shV l, .int .i64 l.length, .int .i64 i] ++ padAny 25
theorem cf_round (l m : List D) (i : Nat) (more : List AV → St → Prop) (kk : KS) : roundK Tryd.prog prCF noL 100 38 0 (tCF l m 0 i) [] (againK 0 0 kCF kCF more kk) =
  br (decide ((↑i : Int) < (↑l.length : Int)))
    (br (decide ((0 : Int) ≤ (↑i : Int)) && decide ((↑i : Int) < (↑l.length : Int)))
      (br (decide ((↑i : Int) ≥ (↑m.length : Int)))
        (kk Ex.ret ([AV.fz false (shV) l, AV.fz false (shV) m, AV.fn (Fn.func (15 : Nat)) [] [], .any, .any, .any, AV.int IntKind.i64 (1 : Int), .any, .any, .any, .any, AV.fz false (shV) l, AV.int IntKind.i64 (↑l.length : Int), AV.int IntKind.i64 (↑i : Int)] ++ padAny 25) [])
        (br (decide ((0 : Int) ≤ (↑i : Int)) && decide ((↑i : Int) < (↑m.length : Int)))
          (br (!decide (cmp3 ((l.getD (↑i : Int).toNat D.nul).fld (0 : Nat)).asInt ((l.getD (↑i : Int).toNat D.nul).fld ((0 : Nat) + (1 : Nat))).asInt ((l.getD (↑i : Int).toNat D.nul).fld ((0 : Nat) + (1 : Nat) + (1 : Nat))).asStr ((m.getD (↑i : Int).toNat D.nul).fld (0 : Nat)).asInt ((m.getD (↑i : Int).toNat D.nul).fld ((0 : Nat) + (1 : Nat))).asInt ((m.getD (↑i : Int).toNat D.nul).fld ((0 : Nat) + (1 : Nat) + (1 : Nat))).asStr = (0 : Int)))
            (kk Ex.ret ([AV.fz false (shV) l, AV.fz false (shV) m, AV.fn (Fn.func (15 : Nat)) [] [], .any, .any, .any, AV.int IntKind.i64 (cmp3 ((l.getD (↑i : Int).toNat D.nul).fld (0 : Nat)).asInt ((l.getD (↑i : Int).toNat D.nul).fld (1 : Nat)).asInt ((l.getD (↑i : Int).toNat D.nul).fld (2 : Nat)).asStr ((m.getD (↑i : Int).toNat D.nul).fld (0 : Nat)).asInt ((m.getD (↑i : Int).toNat D.nul).fld (1 : Nat)).asInt ((m.getD (↑i : Int).toNat D.nul).fld (2 : Nat)).asStr), .any, .any, .any, .any, AV.fz false (shV) l, AV.int IntKind.i64 (↑l.length : Int), AV.int IntKind.i64 (↑i : Int)] ++ padAny 25) [])
            (more ([AV.fz false (shV) l, AV.fz false (shV) m, AV.fn (Fn.func (15 : Nat)) [] [], .any, .any, .any, AV.int IntKind.i64 (0 : Int), .any, .any, .any, .any, AV.fz false (shV) l, AV.int IntKind.i64 (↑l.length : Int), AV.int IntKind.i64 (IntKind.i64.wrap ((↑i : Int) + (1 : Int)))] ++ padAny 25) []))
          (False)))
      (False))
    (kk Ex.normal ([AV.fz false (shV) l, AV.fz false (shV) m, AV.fn (Fn.func (15 : Nat)) [] [], .any, .any, .any, AV.int IntKind.i64 (0 : Int), .any, .any, .any, .any, AV.fz false (shV) l, AV.int IntKind.i64 (↑l.length : Int), AV.int IntKind.i64 (↑i : Int)] ++ padAny 25) []) := by kernel_rfl
theorem cf_body (l m : List D) (G : LoopS) (k : AV → St → Prop) : bodyK Tryd.prog prCF (addL 0 (headG 0 kCF G) noL) 100 38 [] [.fz false shV l, .fz false shV m, .fn (.func 15) [] []] [] k  =
  G (([AV.fz false (shV) l, AV.fz false (shV) m, AV.fn (Fn.func (15 : Nat)) [] [], .any, .any, .any, AV.int IntKind.i64 (0 : Int), .any, .any, .any, .any, AV.fz false (shV) l, AV.int IntKind.i64 (↑l.length : Int), AV.int IntKind.i64 (0 : Int)] ++ padAny 25)) ([]) (contB Tryd.prog prCF (addL 0 (headG 0 kCF G) noL) 100 38 [] [] 0 k) := by kernel_rfl
theorem cf_end (l m : List D) (i : Nat) (F : LoopS) (k : AV → St → Prop) : contB Tryd.prog prCF (addL 0 F noL) 100 38 [] [] 0 k .normal (tCF l m 0 i) [] =
  br (decide ((↑l.length : Int) < (↑m.length : Int)))
    (k (AV.int IntKind.i64 (-1 : Int)) [])
    (k (AV.int IntKind.i64 (0 : Int)) []) := by kernel_rfl
theorem cf_ret (l m : List D) (r : Int) (i : Nat) (F : LoopS) (k : AV → St → Prop) : contB Tryd.prog prCF (addL 0 F noL) 100 38 [] [] 0 k .ret (tCF l m r i) [] =
  k (AV.int IntKind.i64 r) [] := by kernel_rfl
def MCF (l m : List D) (z : Nat) (t : List AV) (s : St) (k : KS) : Prop := ∃ i : Nat, z + i = l.length ∧ i ≤ m.length ∧ t = tCF l m 0 i ∧ s = [] ∧
  match cfL (l.drop i) (m.drop i) with
  | some c => ∀ j : Nat, k .ret (tCF l m c j) []
  | none => ∀ j : Nat, k .normal (tCF l m 0 j) []
theorem cf_step (l m : List D) (hl : l.length < 2 ^ 62) : ∀ z t s k, MCF l m z t s k → roundK Tryd.prog prCF noL 100 38 0 t s (againK 0 0 kCF kCF (fun t' s' => ∃ z', z' < z ∧ MCF l m z' t' s' k) k) := by
  rintro z t s k ⟨i, hz, hi, rfl, rfl, hk⟩
  rw [cf_round]
  refine br_iff.2 ⟨fun h1 => br_t (by simp; omega) ?_, fun h1 => ?_⟩
  · have e1 : l.drop i = l.getD i .nul :: l.drop (i + 1) := drop_one (by omega)
    rw [e1] at hk
    refine br_iff.2 ⟨fun h2 => ?_, fun h2 => br_t (by simp; omega) ?_⟩
    · rw [List.drop_eq_nil_of_le (show m.length ≤ i by omega)] at hk
      exact hk i
    · have e2 : m.drop i = m.getD i .nul :: m.drop (i + 1) := drop_one (by omega)
      rw [e2] at hk
      simp only [cfL] at hk
      refine br_mk (fun h => ?_) (fun h => ?_)
      · have h : ¬ cmpD (l.getD i .nul) (m.getD i .nul) = 0 := by simpa [cmpD, vK, vN, vS] using h
        rw [if_neg h] at hk
        exact hk i
      · have h : cmpD (l.getD i .nul) (m.getD i .nul) = 0 := by simpa [cmpD, vK, vN, vS] using h
        rw [if_pos h] at hk
        refine ⟨l.length - (i + 1), by omega, i + 1, by omega, by omega, ?_, rfl, hk⟩
        simp only [tCF, wrap64 (x := (i : Int) + 1) (by omega) (by omega)]
        simp [padAny, shV]
  · rw [List.drop_eq_nil_of_le (show l.length ≤ i by omega)] at hk
    simp only [cfL] at hk
    exact hk i
theorem cf_ok : SpecOk Tryd.prog 38 (cfF 15).f := specOk_comes fun args s v s' tch e => by
  simp only [cfF] at e
  split at e
  · rename_i sh l sh' m g'
    obtain ⟨hg, rfl, rfl, rfl⟩ := run_ok e
    simp only [Bool.and_eq_true, decide_eq_true_eq] at hg
    obtain ⟨hsh, hsh', hg', hl⟩ := hg
    have := Sh.beq_eq _ _ hsh
    subst this
    have := Sh.beq_eq _ _ hsh'
    subst this
    have := Nat.eq_of_beq_eq_true hg'
    subst this
    have hd : distinctOk Tryd.prog 38 = true := by kernel_rfl
    have hpr : PrOk Tryd.prog prCF := prOk_add pcmp_ok prOk_none
    refine comes_of ok hpr (L := 100) (ms := []) hd (loops_add (L := 100) (kh := kCF) ok hpr hd loops_none (cf_step l m hl)) ?_
    refine Eq.mpr (cf_body l m _ _) ?_
    refine ⟨l.length, 0, by omega, by omega, rfl, rfl, ?_⟩
    have := cfL_row l m
    simp only [List.drop_zero]
    cases h : cfL l m with
    | some c =>
      rw [h] at this
      intro j
      rw [cf_ret]
      exact ⟨by rw [← this], rfl⟩
    | none =>
      rw [h] at this
      intro j
      rw [cf_end]
      simp only [br_iff, ← this]
      exact ⟨fun h => ⟨by rw [if_pos (by omega)], trivial⟩, fun h => ⟨by rw [if_neg (by omega)], trivial⟩⟩
  · cases e
/- ### what may be, by the reference -/
def kRM : List Keep := [.no, .yes, .yes, .yes]
def tRM (r : Bool) (i : Nat) : List AV := [.any, .ptr (some (0, 0)), .bool r, .int .i64 i] ++ padAny 54
def sRM (a b : Int) (c : List UInt8) : St := [.cells [.int .i64 a, .int .i64 b, .str c]]
theorem rmay_body (a b : Int) (c : List UInt8) (G : LoopS) (k : AV → St → Prop) : bodyK Tryd.prog noP (addL 1 (headG 0 kRM G) noL) 100 14 [] [avV a b c] [] k  =
  br (decide (a = (0 : Int)))
    (br (decide (b = (0 : Int)))
      (k (AV.bool (eqBytes c [])) [])
      (k (AV.bool false) []))
    (br (decide (a = (1 : Int)))
      (k (AV.bool (eqBytes c [])) [])
      (br (decide (a = (2 : Int)))
        (G (([.any, AV.ptr (some ((0 : Nat), (0 : Nat))), AV.bool false, AV.int IntKind.i64 (0 : Int)] ++ padAny 54)) ([Ent.cells [AV.int IntKind.i64 a, AV.int IntKind.i64 b, AV.str c]]) (contB Tryd.prog noP (addL 1 (headG 0 kRM G) noL) 100 14 [] [] 1 k))
        (k (AV.bool false) []))) := by kernel_rfl
theorem rmay_round (a b : Int) (c : List UInt8) (i : Nat) (more : List AV → St → Prop) (kk : KS) : roundK Tryd.prog noP noL 100 14 1 (tRM false i) (sRM a b c) (againK 0 1 kRM kRM more kk) =
  br (decide ((↑i : Int) < (↑c.length : Int)))
    (br (decide ((0 : Int) ≤ (↑i : Int)) && decide ((↑i : Int) < (↑c.length : Int)))
      (br (decide ((↑(c.getD (↑i : Int).toNat (0 : UInt8)).toNat : Int) < (32 : Int)))
        (kk Ex.ret ([.any, AV.ptr (some ((0 : Nat), (0 : Nat))), AV.bool false, AV.int IntKind.i64 (↑i : Int)] ++ padAny 54) [Ent.cells [AV.int IntKind.i64 a, AV.int IntKind.i64 b, AV.str c]])
        (br (decide ((0 : Int) ≤ (↑i : Int)) && decide ((↑i : Int) < (↑c.length : Int)))
          (br (decide ((↑(c.getD (↑i : Int).toNat (0 : UInt8)).toNat : Int) > (126 : Int)))
            (kk Ex.ret ([.any, AV.ptr (some ((0 : Nat), (0 : Nat))), AV.bool false, AV.int IntKind.i64 (↑i : Int)] ++ padAny 54) [Ent.cells [AV.int IntKind.i64 a, AV.int IntKind.i64 b, AV.str c]])
            (br (decide ((0 : Int) ≤ (↑i : Int)) && decide ((↑i : Int) < (↑c.length : Int)))
              (br (decide ((↑(c.getD (↑i : Int).toNat (0 : UInt8)).toNat : Int) = (39 : Int)))
                (kk Ex.ret ([.any, AV.ptr (some ((0 : Nat), (0 : Nat))), AV.bool false, AV.int IntKind.i64 (↑i : Int)] ++ padAny 54) [Ent.cells [AV.int IntKind.i64 a, AV.int IntKind.i64 b, AV.str c]])
                (more ([.any, AV.ptr (some ((0 : Nat), (0 : Nat))), AV.bool false, AV.int IntKind.i64 (IntKind.i64.wrap ((↑i : Int) + (1 : Int)))] ++ padAny 54) [Ent.cells [AV.int IntKind.i64 a, AV.int IntKind.i64 b, AV.str c]]))
              (False)))
          (False)))
      (False))
    (kk Ex.normal ([.any, AV.ptr (some ((0 : Nat), (0 : Nat))), AV.bool false, AV.int IntKind.i64 (↑i : Int)] ++ padAny 54) [Ent.cells [AV.int IntKind.i64 a, AV.int IntKind.i64 b, AV.str c]]) := by kernel_rfl
theorem rmay_end (a b : Int) (c : List UInt8) (i : Nat) (F : LoopS) (k : AV → St → Prop) : contB Tryd.prog noP (addL 1 F noL) 100 14 [] [] 1 k .normal (tRM false i) (sRM a b c) =
  br (decide (b = (0 : Int)))
    (k (AV.bool (decide ((↑c.length : Int) ≤ (12 : Int)))) [])
    (k (AV.bool false) []) := by kernel_rfl
theorem rmay_ret (a b : Int) (c : List UInt8) (r : Bool) (i : Nat) (F : LoopS) (k : AV → St → Prop) : contB Tryd.prog noP (addL 1 F noL) 100 14 [] [] 1 k .ret (tRM r i) (sRM a b c) =
  k (AV.bool r) [] := by kernel_rfl
def MRM (a b : Int) (c : List UInt8) (z : Nat) (t : List AV) (s : St) (k : KS) : Prop := ∃ i : Nat, z + i = c.length ∧ t = tRM false i ∧ s = sRM a b c ∧
  match txtOk (c.drop i) with
  | true => ∀ j : Nat, k .normal (tRM false j) (sRM a b c)
  | false => ∀ j : Nat, k .ret (tRM false j) (sRM a b c)
theorem rmay_step (a b : Int) (c : List UInt8) (hc : c.length < 1000) : ∀ z t s k, MRM a b c z t s k → roundK Tryd.prog noP noL 100 14 1 t s (againK 0 1 kRM kRM (fun t' s' => ∃ z', z' < z ∧ MRM a b c z' t' s' k) k) := by
  rintro z t s k ⟨i, hz, rfl, rfl, hk⟩
  rw [rmay_round]
  refine br_iff.2 ⟨fun h1 => ?_, fun h1 => ?_⟩
  · have hin : (decide ((0 : Int) ≤ (↑i : Int)) && decide ((↑i : Int) < (↑c.length : Int))) = true := by simp; omega
    rw [drop_get (d := 0) (show i < c.length by omega)] at hk
    simp only [Int.toNat_natCast]
    by_cases p1 : ((c.getD i 0).toNat : Int) < 32
    · simp only [txtOk, p1, decide_true, Bool.true_or, Bool.not_true, Bool.false_and] at hk
      exact br_t hin (br_t (decide_eq_true p1) (hk i))
    by_cases p2 : ((c.getD i 0).toNat : Int) > 126
    · simp only [txtOk, p2, decide_true, Bool.true_or, Bool.or_true, Bool.not_true, Bool.false_and] at hk
      exact br_t hin (br_iff.2 ⟨fun h => absurd h p1, fun _ => br_t hin (br_t (decide_eq_true p2) (hk i))⟩)
    by_cases p3 : ((c.getD i 0).toNat : Int) = 39
    · simp only [txtOk, p3, decide_true, Bool.true_or, Bool.or_true, Bool.not_true, Bool.false_and] at hk
      exact br_t hin (br_iff.2 ⟨fun h => absurd h p1, fun _ => br_t hin (br_iff.2 ⟨fun h => absurd h p2, fun _ => br_t hin (br_t (decide_eq_true p3) (hk i))⟩)⟩)
    · simp only [txtOk, p1, p2, p3, decide_false, Bool.or_false, Bool.not_false, Bool.true_and] at hk
      refine br_t hin (br_iff.2 ⟨fun h => absurd h p1, fun _ => br_t hin (br_iff.2 ⟨fun h => absurd h p2, fun _ => br_t hin (br_iff.2 ⟨fun h => absurd h p3, fun _ => ?_⟩)⟩)⟩)
      refine ⟨c.length - (i + 1), by omega, i + 1, by omega, ?_, rfl, hk⟩
      simp only [tRM, wrap64 (x := (i : Int) + 1) (by omega) (by omega)]
      simp
  · rw [List.drop_eq_nil_of_le (by omega)] at hk
    exact hk i
theorem rmay_ok : SpecOk Tryd.prog 14 mayF.f := specOk_comes fun args s v s' tch e => by
  simp only [mayF] at e
  split at e
  · rename_i a b c
    obtain ⟨hg, rfl, rfl, rfl⟩ := run_ok e
    have hg := of_decide_eq_true hg
    have hd : distinctOk Tryd.prog 14 = true := by kernel_rfl
    refine comes_of ok prOk_none (L := 100) (ms := []) hd (loops_add (L := 100) (kh := kRM) ok prOk_none hd loops_none (rmay_step a b c hg)) ?_
    refine Eq.mpr (rmay_body a b c _ _) ?_
    by_cases h0 : a = 0
    · by_cases hb : b = 0 <;> simp [mayV, br, h0, hb]
    by_cases h1 : a = 1
    · simp [mayV, br, h1]
    refine br_iff.2 ⟨fun h => absurd h h0, fun _ => br_iff.2 ⟨fun h => absurd h h1, fun _ => br_iff.2 ⟨fun h2 => ?_, fun h2 => ?_⟩⟩⟩
    · subst h2
      refine ⟨c.length, 0, by omega, rfl, rfl, ?_⟩
      rw [List.drop_zero]
      cases h : txtOk c with
      | true => intro j; rw [rmay_end]; refine br_iff.2 ⟨fun h' => ⟨by simp [mayV, h, h'], rfl⟩, fun h' => ⟨by simp [mayV, h, h'], rfl⟩⟩
      | false => intro j; rw [rmay_ret]; exact ⟨by simp [mayV, h], rfl⟩
    · simp [mayV, h0, h1, h2]
  · cases e
def prRTe : FuncId → Option Sy.Spec := addP 37 digsF noP
theorem rtext_body (a b : Int) (c : List UInt8) (k : AV → St → Prop) : bodyK Tryd.prog prRTe noL 100 22 [] [avV a b c] [] k =
  br (decide (a = (1 : Int)))
    (br (in64 b)
      (k (AV.str (itoaB b)) [])
      (False))
    (br (decide (a = (2 : Int)))
      (br (((1 : Nat) + c.length).ble (9223372036854775807 : Nat))
        (br ((([(39 : UInt8)] ++ c).length + (1 : Nat)).ble (9223372036854775807 : Nat))
          (k (AV.str ([(39 : UInt8)] ++ c ++ [(39 : UInt8)])) [])
          (False))
        (False))
      (k (AV.str [(110 : UInt8), (117 : UInt8), (108 : UInt8), (108 : UInt8)]) [])) := by kernel_rfl
theorem rtext_ok : SpecOk Tryd.prog 22 textF.f := specOk_comes fun args s v s' tch e => by
  simp only [textF] at e
  split at e
  · rename_i a b c
    obtain ⟨hg, rfl, rfl, rfl⟩ := run_ok e
    simp only [in64, Bool.and_eq_true, decide_eq_true_eq] at hg
    refine comes_of ok (prOk_add digs_ok prOk_none) (L := 100) (ms := []) (by kernel_rfl) loops_none ?_
    refine Eq.mpr (rtext_body a b c _) ?_
    by_cases h1 : a = 1
    · simp [textV, br, h1, in64, hg]
    by_cases h2 : a = 2
    · have e1 : (1 + c.length).ble 9223372036854775807 = true := Nat.ble_eq_true_of_le (by omega)
      have e2 : (c.length + 1 + 1).ble 9223372036854775807 = true := Nat.ble_eq_true_of_le (by omega)
      have e3 : (1 + c.length + 1).ble 9223372036854775807 = true := Nat.ble_eq_true_of_le (by omega)
      simp [textV, br, h2, e1, e2, e3]
    simp [textV, br, h1, h2]
  · cases e
def prRow : FuncId → Option Sy.Spec := addP 38 (cfF 15) noP
theorem prow_body (l m : List D) (k : AV → St → Prop) : bodyK Tryd.prog prRow noL 100 24 [] [.fz false shV l, .fz false shV m] [] k =
  br (decide ((D.list l).els.length < (2 : Nat) ^ (62 : Nat)))
    (k (AV.int IntKind.i64 (rowD l m)) [])
    (False) := by kernel_rfl
theorem prow_ok : SpecOk Tryd.prog 24 rowF.f := specOk_comes fun args s v s' tch e => by
  simp only [rowF] at e
  split at e
  · rename_i sh l sh' m
    obtain ⟨hg, rfl, rfl, rfl⟩ := run_ok e
    simp only [Bool.and_eq_true, decide_eq_true_eq] at hg
    obtain ⟨⟨hsh, hsh'⟩, hl⟩ := hg
    have := Sh.beq_eq _ _ hsh
    subst this
    have := Sh.beq_eq _ _ hsh'
    subst this
    refine comes_of ok (prOk_add cf_ok prOk_none) (L := 100) (ms := []) (by kernel_rfl) loops_none ?_
    refine Eq.mpr (prow_body l m _) ?_
    exact br_t (decide_eq_true hl) ⟨rfl, rfl⟩
  · cases e
end Go.Proofs.YthcekejmeoaelaaDoor
