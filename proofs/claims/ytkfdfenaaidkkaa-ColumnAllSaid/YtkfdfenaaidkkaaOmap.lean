/- Walks: a map in order (keys: texts; values: numbers). -/
import Derived.Test.YtkfdfenaaidkkaaOmapW
import Derived.Test.YtkfdfenaaidkkaaSyNil
import Derived.KernelRfl
set_option linter.unusedSimpArgs false
set_option linter.unusedVariables false
set_option maxRecDepth 100000
namespace Go.Proofs.Ytkfdfenaaidkkaa
open Go Go.Sy
attribute [local irreducible] bodyK roundK
theorem d1 : Try.prog.follows .mixedOrders = true := by kernel_rfl
theorem d2 : namesOkA Try.prog = true := by kernel_rfl
theorem d3 : drawsAllA Try.prog = true := by kernel_rfl
theorem d4 : extsOkA Try.prog = true := by kernel_rfl
theorem ok : ProgOk Try.prog := progOk_of d1 d2 d3 d4
theorem len_body (nn : Bool) (n : Nat) (l : List D) (K : AV → St → Prop) : bodyK Try.prog noP noL 100 36 [] [.ptr (some (0, 0))] (mS 43 l nn n) K =
  K (AV.int IntKind.i64 (↑n : Int)) [Ent.cells [AV.fn (Fn.func (43 : Nat)) [] [], AV.tsl nn (Sh.struct [Sh.str, Sh.int IntKind.i64]) (1 : Nat) (0 : Nat) n Cap.tight], Ent.tbl false (Sh.struct [Sh.str, Sh.int IntKind.i64]) l] := by kernel_rfl
theorem lenM_ok : SpecOk Try.prog 36 (lenMF 43).f := specOk_comes fun args s v s' tch e => by
  simp only [lenMF] at e
  split at e
  · rename_i g nn e0 n sh l
    obtain ⟨hg, rfl, rfl, rfl⟩ := run_ok e
    simp only [Bool.and_eq_true, okM_iff] at hg
    obtain ⟨h1, h2, h3, hl, hn⟩ := hg
    have h1 := Nat.eq_of_beq_eq_true h1
    subst h1 h2 h3
    refine comes_of ok prOk_none (L := 100) (ms := []) (by kernel_rfl) loops_none ?_
    refine Eq.mpr (len_body ..) ?_
    exact ⟨rfl, rfl⟩
  · cases e
theorem new_body (K : AV → St → Prop) : bodyK Try.prog noP noL 100 42 [] [.fn (.func 43) [] []] [] K =
  K (AV.ptr (some ((0 : Nat), (0 : Nat)))) [Ent.cells [AV.fn (Fn.func (43 : Nat)) [] [], AV.nilSl]] := by kernel_rfl
theorem newM_ok : SpecOk Try.prog 42 (newMF 43).f := specOk_comes fun args s v s' tch e => by
  simp only [newMF] at e
  split at e
  · obtain ⟨hg, rfl, rfl, rfl⟩ := run_ok e
    have h1 := Nat.eq_of_beq_eq_true hg
    subst h1
    refine comes_nil_in (e := shP) (s' := [.cells [.fn (.func 43) [] [], .nilSl]]) (i := 0) (pre := [.fn (.func 43) [] []]) (post := []) rfl ?_
    refine comes_of ok prOk_none (L := 100) (ms := []) (by kernel_rfl) loops_none ?_
    rw [new_body]
    exact ⟨rfl, rfl⟩
  · cases e
def prC : FuncId → Option Sy.Spec := addP 49 cmpSF noP
theorem cmp_body (a b : List UInt8) (K : AV → St → Prop) : bodyK Try.prog prC noL 100 43 [] [.str a, .str b] [] K =
  K (AV.int IntKind.i64 (c3 a b)) [] := by kernel_rfl
theorem prC_ok : PrOk Try.prog prC := prOk_add pcmpstr_ok prOk_none
theorem pcmp_ok : SpecOk Try.prog 43 cmpSF.f := specOk_comes fun args s v s' tch e => by
  simp only [cmpSF] at e
  split at e
  · obtain ⟨hg, rfl, rfl, rfl⟩ := run_ok e
    refine comes_of ok prC_ok (L := 100) (ms := []) (by kernel_rfl) loops_none ?_
    rw [cmp_body]
    exact ⟨rfl, rfl⟩
  · cases e
def prCm : FuncId → Option Sy.Spec := addP 43 cmpSF noP
theorem find1_body (a : List UInt8) (v : Int) (k : List UInt8) (nn : Bool) (n : Nat) (l : List D) (K : AV → St → Prop) : bodyK Try.prog prCm noL 100 51 [] [.agg [.str a, .int .i64 v], .str k, .ptr (some (0, 0))] [.cells [.ptr (some (1, 0))], .cells [.fn (.func 43) [] [], .tsl nn shP 2 0 n .tight], .tbl false shP l] K =
  K (AV.int IntKind.i64 (c3 a k)) [Ent.cells [AV.ptr (some ((1 : Nat), (0 : Nat)))], Ent.cells [AV.fn (Fn.func (43 : Nat)) [] [], AV.tsl nn (Sh.struct [Sh.str, Sh.int IntKind.i64]) (2 : Nat) (0 : Nat) n Cap.tight], Ent.tbl false (Sh.struct [Sh.str, Sh.int IntKind.i64]) l] := by kernel_rfl
theorem prCm_ok : PrOk Try.prog prCm := prOk_add pcmp_ok prOk_none
theorem find1_ok : SpecOk Try.prog 51 (find1F 43).f := specOk_comes fun args s v s' tch e => by
  simp only [find1F] at e
  split at e
  · obtain ⟨hg, rfl, rfl, rfl⟩ := run_ok e
    simp only [Bool.and_eq_true] at hg
    obtain ⟨h1, h2, h3⟩ := hg
    have h1 := Nat.eq_of_beq_eq_true h1
    have h2 := Sh.beq_eq _ _ h2
    have h3 := Sh.beq_eq _ _ h3
    subst h1 h2 h3
    refine comes_of ok prCm_ok (L := 100) (ms := []) (by kernel_rfl) loops_none ?_
    refine Eq.mpr (find1_body ..) ?_
    exact ⟨rfl, rfl⟩
  · cases e
def prB : FuncId → Option Sy.Spec := addP 51 (find1F 43) noP
def kB : List Keep := [.yes, .yes, .yes, .no, .no, .no, .no, .no, .yes, .yes, .yes]
def tB (k : List UInt8) (nn : Bool) (n : Nat) (i j : Nat) : List AV := [.tsl nn shP 0 0 n .tight, .str k, .fn (.func 51) [] [.ptr (some (1, 0))], .any, .any, .any, .any, .any, .int .i64 (n : Int), .int .i64 (i : Int), .int .i64 (j : Int)] ++ padAny 38
theorem bs_body (k : List UInt8) (nn : Bool) (n : Nat) (l : List D) (G : LoopS) (K : AV → St → Prop) : bodyK Try.prog prB (addL 0 (headG 3 kB G) noL) 100 50 [] [.tsl nn shP 0 0 n .tight, .str k, .fn (.func 51) [] [.ptr (some (1, 0))]] (bS 43 l nn n) K  =
  G (([AV.tsl nn (Sh.struct [Sh.str, Sh.int IntKind.i64]) (0 : Nat) (0 : Nat) n Cap.tight, AV.str k, AV.fn (Fn.func (51 : Nat)) [] [AV.ptr (some ((1 : Nat), (0 : Nat)))], .any, .any, .any, .any, .any, AV.int IntKind.i64 (↑n : Int), AV.int IntKind.i64 (0 : Int), AV.int IntKind.i64 (↑n : Int)] ++ padAny 38)) ([Ent.tbl false (Sh.struct [Sh.str, Sh.int IntKind.i64]) l, Ent.cells [AV.ptr (some ((2 : Nat), (0 : Nat)))], Ent.cells [AV.fn (Fn.func (43 : Nat)) [] [], AV.tsl nn (Sh.struct [Sh.str, Sh.int IntKind.i64]) (0 : Nat) (0 : Nat) n Cap.tight]]) (contB Try.prog prB (addL 0 (headG 3 kB G) noL) 100 50 [] (bS 43 l nn n) 0 K) := by kernel_rfl
theorem bs_round (k : List UInt8) (nn : Bool) (n : Nat) (l : List D) (i j : Nat) (more : List AV → St → Prop) (kk : KS) : roundK Try.prog prB noL 100 50 0 (tB k nn n i j) (bS 43 l nn n) (againK 3 0 kB kB more kk) =
  br (decide ((↑i : Int) < (↑j : Int)))
    (br (decide ((0 : Int) ≤ IntKind.i64.wrap ((IntKind.u64.wrap (IntKind.i64.wrap ((↑i : Int) + (↑j : Int)))).fdiv (2 : Int))) && decide (IntKind.i64.wrap ((IntKind.u64.wrap (IntKind.i64.wrap ((↑i : Int) + (↑j : Int)))).fdiv (2 : Int)) < (↑n : Int)))
      (br (decide ((0 : Nat) + (IntKind.i64.wrap ((IntKind.u64.wrap (IntKind.i64.wrap ((↑i : Int) + (↑j : Int)))).fdiv (2 : Int))).toNat < l.length))
        (br (decide (c3 ((l.getD ((0 : Nat) + (IntKind.i64.wrap ((IntKind.u64.wrap (IntKind.i64.wrap ((↑i : Int) + (↑j : Int)))).fdiv (2 : Int))).toNat) D.nul).fld (0 : Nat)).asStr k < (0 : Int)))
          (more ([AV.tsl nn (Sh.struct [Sh.str, Sh.int IntKind.i64]) (0 : Nat) (0 : Nat) n Cap.tight, AV.str k, AV.fn (Fn.func (51 : Nat)) [] [AV.ptr (some ((1 : Nat), (0 : Nat)))], .any, .any, .any, .any, .any, AV.int IntKind.i64 (↑n : Int), AV.int IntKind.i64 (IntKind.i64.wrap (IntKind.i64.wrap ((IntKind.u64.wrap (IntKind.i64.wrap ((↑i : Int) + (↑j : Int)))).fdiv (2 : Int)) + (1 : Int))), AV.int IntKind.i64 (↑j : Int)] ++ padAny 38) [Ent.tbl false (Sh.struct [Sh.str, Sh.int IntKind.i64]) l, Ent.cells [AV.ptr (some ((0 : Nat) + (1 : Nat) + (1 : Nat), (0 : Nat)))], Ent.cells [AV.fn (Fn.func (43 : Nat)) [] [], AV.tsl nn (Sh.struct [Sh.str, Sh.int IntKind.i64]) (0 : Nat) (0 : Nat) n Cap.tight]])
          (more ([AV.tsl nn (Sh.struct [Sh.str, Sh.int IntKind.i64]) (0 : Nat) (0 : Nat) n Cap.tight, AV.str k, AV.fn (Fn.func (51 : Nat)) [] [AV.ptr (some ((1 : Nat), (0 : Nat)))], .any, .any, .any, .any, .any, AV.int IntKind.i64 (↑n : Int), AV.int IntKind.i64 (↑i : Int), AV.int IntKind.i64 (IntKind.i64.wrap ((IntKind.u64.wrap (IntKind.i64.wrap ((↑i : Int) + (↑j : Int)))).fdiv (2 : Int)))] ++ padAny 38) [Ent.tbl false (Sh.struct [Sh.str, Sh.int IntKind.i64]) l, Ent.cells [AV.ptr (some ((0 : Nat) + (1 : Nat) + (1 : Nat), (0 : Nat)))], Ent.cells [AV.fn (Fn.func (43 : Nat)) [] [], AV.tsl nn (Sh.struct [Sh.str, Sh.int IntKind.i64]) (0 : Nat) (0 : Nat) n Cap.tight]]))
        (False))
      (False))
    (kk Ex.normal ([AV.tsl nn (Sh.struct [Sh.str, Sh.int IntKind.i64]) (0 : Nat) (0 : Nat) n Cap.tight, AV.str k, AV.fn (Fn.func (51 : Nat)) [] [AV.ptr (some ((1 : Nat), (0 : Nat)))], .any, .any, .any, .any, .any, AV.int IntKind.i64 (↑n : Int), AV.int IntKind.i64 (↑i : Int), AV.int IntKind.i64 (↑j : Int)] ++ padAny 38) [Ent.tbl false (Sh.struct [Sh.str, Sh.int IntKind.i64]) l, Ent.cells [AV.ptr (some ((2 : Nat), (0 : Nat)))], Ent.cells [AV.fn (Fn.func (43 : Nat)) [] [], AV.tsl nn (Sh.struct [Sh.str, Sh.int IntKind.i64]) (0 : Nat) (0 : Nat) n Cap.tight]]) := by kernel_rfl
theorem bs_end (k : List UInt8) (nn : Bool) (n : Nat) (l : List D) (i j : Nat) (F : LoopS) (K : AV → St → Prop) : contB Try.prog prB (addL 0 F noL) 100 50 [] (bS 43 l nn n) 0 K .normal (tB k nn n i j) (bS 43 l nn n) =
  br (decide ((↑i : Int) < (↑n : Int)))
    (br (decide ((0 : Int) ≤ (↑i : Int)) && decide ((↑i : Int) < (↑n : Int)))
      (br (decide ((0 : Nat) + (↑i : Int).toNat < l.length))
        (K (AV.tup [AV.int IntKind.i64 (↑i : Int), AV.bool (decide (c3 ((l.getD ((0 : Nat) + (↑i : Int).toNat) D.nul).fld (0 : Nat)).asStr k = (0 : Int)))]) [Ent.tbl false (Sh.struct [Sh.str, Sh.int IntKind.i64]) l, Ent.cells [AV.ptr (some ((0 : Nat) + (1 : Nat) + (1 : Nat), (0 : Nat)))], Ent.cells [AV.fn (Fn.func (43 : Nat)) [] [], AV.tsl nn (Sh.struct [Sh.str, Sh.int IntKind.i64]) (0 : Nat) (0 : Nat) n Cap.tight]])
        (False))
      (False))
    (K (AV.tup [AV.int IntKind.i64 (↑i : Int), AV.bool false]) [Ent.tbl false (Sh.struct [Sh.str, Sh.int IntKind.i64]) l, Ent.cells [AV.ptr (some ((2 : Nat), (0 : Nat)))], Ent.cells [AV.fn (Fn.func (43 : Nat)) [] [], AV.tsl nn (Sh.struct [Sh.str, Sh.int IntKind.i64]) (0 : Nat) (0 : Nat) n Cap.tight]]) := by kernel_rfl
theorem prB_ok : PrOk Try.prog prB := prOk_add find1_ok prOk_none
def MB (k : List UInt8) (nn : Bool) (n : Nat) (l : List D) (m : Nat) (t : List AV) (s : St) (kk : KS) : Prop := ∃ i j : Nat, m = j - i ∧ i ≤ j ∧ j ≤ n ∧ t = tB k nn n i j ∧ s = bS 43 l nn n ∧ bsGo l k (j - i) i j = bs l k ∧
  ∀ j' : Nat, kk .normal (tB k nn n (bs l k) j') (bS 43 l nn n)
theorem bs_step (k : List UInt8) (nn : Bool) (n : Nat) (l : List D) (hl : l.length = n) (hn : n < 1000000) : ∀ m t s kk, MB k nn n l m t s kk → roundK Try.prog prB noL 100 50 0 t s (againK 3 0 kB kB (fun t' s' => ∃ m', m' < m ∧ MB k nn n l m' t' s' kk) kk) := by
  rintro m t s kk ⟨i, j, rfl, hij, hj, rfl, rfl, hbs, hk⟩
  rw [bs_round]
  refine br_iff.2 ⟨fun h1 => ?_, fun h1 => ?_⟩
  · have h1 : i < j := by omega
    rw [half h1 hj hn]
    refine br_t (by simp; omega) (br_t (by simp; omega) ?_)
    rw [bsGo_step h1 (Nat.le_refl _)] at hbs
    rw [Nat.zero_add, Int.toNat_natCast]
    refine br_iff.2 ⟨fun h2 => ⟨j - ((i + j) / 2 + 1), by omega, (i + j) / 2 + 1, j, rfl, by omega, hj, ?_, rfl, ?_, hk⟩, fun h2 => ⟨(i + j) / 2 - i, by omega, i, (i + j) / 2, rfl, by omega, by omega, ?_, rfl, ?_, hk⟩⟩
    · rw [wrap64 (by omega) (by omega)]; rfl
    · rw [if_pos (show c3 (keyD (l.getD ((i + j) / 2) .nul)) k < 0 from h2)] at hbs
      rw [← hbs]
      exact bsGo_fuel _ _ _ _ _ _ (by omega) (by omega)
    · rfl
    · rw [if_neg (show ¬ c3 (keyD (l.getD ((i + j) / 2) .nul)) k < 0 from h2)] at hbs
      rw [← hbs]
      exact bsGo_fuel _ _ _ _ _ _ (by omega) (by omega)
  · rw [bsGo_end (by omega)] at hbs
    subst hbs
    exact hk j
theorem bs_ok : SpecOk Try.prog 50 (bsF 43 51).f := specOk_comes fun args s v s' tch e => by
  simp only [bsF] at e
  split at e
  · rename_i nn e0 n k f sh l g nn' e' n'
    obtain ⟨hg, rfl, rfl, rfl⟩ := run_ok e
    simp only [Bool.and_eq_true, okM_iff, beq_iff_eq] at hg
    obtain ⟨h1, h2, ⟨h3, h4, hl, hn⟩, h5, h6, h7⟩ := hg
    have h1 := Nat.eq_of_beq_eq_true h1
    have h2 := Nat.eq_of_beq_eq_true h2
    have h5 := Sh.beq_eq _ _ h5
    have h6 := Nat.eq_of_beq_eq_true h6
    subst h1 h2 h3 h4 h5 h6 h7
    have hd : distinctOk Try.prog 50 = true := by kernel_rfl
    refine comes_of ok prB_ok (L := 100) (ms := []) hd (loops_add (L := 100) (kh := kB) ok prB_ok hd loops_none (bs_step k nn n' l hl hn)) ?_
    show bodyK _ _ _ _ _ _ _ _ _
    refine Eq.mpr (bs_body k nn n' l _ _) ?_
    refine ⟨n', 0, n', rfl, by omega, Nat.le_refl _, rfl, rfl, by subst hl; rfl, fun j => ?_⟩
    rw [bs_end]
    have hb := bs_le l k
    refine br_iff.2 ⟨fun h1 => br_t (by simp; omega) (br_t (by simp; omega) ⟨?_, rfl⟩), fun h1 => ⟨?_, rfl⟩⟩
    · have h1 : bs l k < l.length := by omega
      rw [Nat.zero_add, Int.toNat_natCast]
      simp only [hasB, keyD, blt_lt.2 h1, Bool.true_and]
      rfl
    · have h1 : Nat.blt (bs l k) l.length = false := blt_ge.2 (by omega)
      simp only [hasB, h1, Bool.false_and]
  · cases e
def prF : FuncId → Option Sy.Spec := addP 50 (bsF 43 51) noP
theorem find_body (k : List UInt8) (nn : Bool) (n : Nat) (l : List D) (K : AV → St → Prop) : bodyK Try.prog prF noL 100 44 [] [.ptr (some (0, 0)), .str k] (mS 43 l nn n) K =
  br (okM (Sh.struct [Sh.str, Sh.int IntKind.i64]) (Sh.struct [Sh.str, Sh.int IntKind.i64]) l n && (n.beq n && nn == nn))
    (K (AV.tup [AV.int IntKind.i64 (↑(bs l k) : Int), AV.bool (hasB l k)]) [Ent.cells [AV.fn (Fn.func (43 : Nat)) [] [], AV.tsl nn (Sh.struct [Sh.str, Sh.int IntKind.i64]) ((0 : Nat) + (1 : Nat)) (0 : Nat) n Cap.tight], Ent.tbl false (Sh.struct [Sh.str, Sh.int IntKind.i64]) l])
    (False) := by kernel_rfl
theorem prF_ok : PrOk Try.prog prF := prOk_add bs_ok prOk_none
theorem find_ok : SpecOk Try.prog 44 (findF 43).f := specOk_comes fun args s v s' tch e => by
  simp only [findF] at e
  split at e
  · rename_i k g nn e0 n sh l
    obtain ⟨hg, rfl, rfl, rfl⟩ := run_ok e
    simp only [Bool.and_eq_true, okM_iff] at hg
    obtain ⟨h1, h2, h3, hl, hn⟩ := hg
    have h1 := Nat.eq_of_beq_eq_true h1
    subst h1 h2 h3
    refine comes_of ok prF_ok (L := 100) (ms := []) (by kernel_rfl) loops_none ?_
    refine Eq.mpr (find_body ..) ?_
    exact br_t (by simp only [Bool.and_eq_true]; exact ⟨okM_mk hl hn, Nat.beq_refl n, by simp⟩) ⟨rfl, rfl⟩
  · cases e
def prP : FuncId → Option Sy.Spec := addP 44 (findF 43) (addP 45 (insF shP) (addP 46 (delF shP) noP))
theorem put_body (k : List UInt8) (v : Int) (nn : Bool) (n : Nat) (l : List D) (K : AV → St → Prop) : bodyK Try.prog prP noL 100 34 [] [.ptr (some (0, 0)), .str k, .int .i64 v] (mS 43 l nn n) K =
  br (okM (Sh.struct [Sh.str, Sh.int IntKind.i64]) (Sh.struct [Sh.str, Sh.int IntKind.i64]) l n)
    (br (hasB l k)
      (br (decide ((0 : Int) ≤ (↑(bs l k) : Int)) && decide ((↑(bs l k) : Int) < (↑n : Int)))
        (br (decide ((0 : Nat) + (↑(bs l k) : Int).toNat < l.length))
          (K (AV.bool false) [Ent.cells [AV.fn (Fn.func (43 : Nat)) [] [], AV.tsl nn (Sh.struct [Sh.str, Sh.int IntKind.i64]) ((0 : Nat) + (1 : Nat)) (0 : Nat) n Cap.tight], Ent.tbl false (Sh.struct [Sh.str, Sh.int IntKind.i64]) (l.set ((0 : Nat) + (↑(bs l k) : Int).toNat) (D.agg [D.str ((l.getD ((0 : Nat) + (↑(bs l k) : Int).toNat) D.nul).fld (0 : Nat)).asStr, D.int v]))])
          (False))
        (False))
      (br (l.length.beq n && (decide ((0 : Int) ≤ (↑(bs l k) : Int)) && (decide ((↑(bs l k) : Int) ≤ (↑n : Int)) && decide (n ≤ (1000000 : Nat)))))
        (K (AV.bool true) [Ent.cells [AV.fn (Fn.func (43 : Nat)) [] [], AV.tsl true (Sh.struct [Sh.str, Sh.int IntKind.i64]) ((0 : Nat) + (1 : Nat) + (1 : Nat)) (0 : Nat) (n + (1 : Nat)) Cap.tight], Ent.dead, Ent.tbl false (Sh.struct [Sh.str, Sh.int IntKind.i64]) (List.take (↑(bs l k) : Int).toNat l ++ D.agg [D.str k, D.int v] :: List.drop (↑(bs l k) : Int).toNat l)])
        (False)))
    (False) := by kernel_rfl
theorem get_body (k : List UInt8) (nn : Bool) (n : Nat) (l : List D) (K : AV → St → Prop) : bodyK Try.prog prP noL 100 33 [] [.ptr (some (0, 0)), .str k] (mS 43 l nn n) K =
  br (okM (Sh.struct [Sh.str, Sh.int IntKind.i64]) (Sh.struct [Sh.str, Sh.int IntKind.i64]) l n)
    (br (!hasB l k)
      (K (AV.tup [AV.int IntKind.i64 (0 : Int), AV.bool false]) [Ent.cells [AV.fn (Fn.func (43 : Nat)) [] [], AV.tsl nn (Sh.struct [Sh.str, Sh.int IntKind.i64]) ((0 : Nat) + (1 : Nat)) (0 : Nat) n Cap.tight], Ent.tbl false (Sh.struct [Sh.str, Sh.int IntKind.i64]) l])
      (br (decide ((0 : Int) ≤ (↑(bs l k) : Int)) && decide ((↑(bs l k) : Int) < (↑n : Int)))
        (br (decide ((0 : Nat) + (↑(bs l k) : Int).toNat < l.length))
          (K (AV.tup [AV.int IntKind.i64 ((l.getD ((0 : Nat) + (↑(bs l k) : Int).toNat) D.nul).fld (1 : Nat)).asInt, AV.bool true]) [Ent.cells [AV.fn (Fn.func (43 : Nat)) [] [], AV.tsl nn (Sh.struct [Sh.str, Sh.int IntKind.i64]) ((0 : Nat) + (1 : Nat)) (0 : Nat) n Cap.tight], Ent.tbl false (Sh.struct [Sh.str, Sh.int IntKind.i64]) l])
          (False))
        (False)))
    (False) := by kernel_rfl
theorem mdel_body (k : List UInt8) (nn : Bool) (n : Nat) (l : List D) (K : AV → St → Prop) : bodyK Try.prog prP noL 100 35 [] [.ptr (some (0, 0)), .str k] (mS 43 l nn n) K =
  br (okM (Sh.struct [Sh.str, Sh.int IntKind.i64]) (Sh.struct [Sh.str, Sh.int IntKind.i64]) l n)
    (br (hasB l k)
      (br (l.length.beq n && (decide ((0 : Int) ≤ (↑(bs l k) : Int)) && (decide (IntKind.i64.wrap ((↑(bs l k) : Int) + (1 : Int)) = (↑(bs l k) : Int) + (1 : Int)) && (decide (IntKind.i64.wrap ((↑(bs l k) : Int) + (1 : Int)) ≤ (↑n : Int)) && decide (n ≤ (1000000 : Nat))))))
        (K (AV.bool (hasB l k)) [Ent.cells [AV.fn (Fn.func (43 : Nat)) [] [], AV.tsl true (Sh.struct [Sh.str, Sh.int IntKind.i64]) ((0 : Nat) + (1 : Nat) + (1 : Nat)) (0 : Nat) (n - (1 : Nat)) Cap.tight], Ent.dead, Ent.tbl false (Sh.struct [Sh.str, Sh.int IntKind.i64]) (List.take (↑(bs l k) : Int).toNat l ++ List.drop ((↑(bs l k) : Int).toNat + (1 : Nat)) l)])
        (False))
      (K (AV.bool (hasB l k)) [Ent.cells [AV.fn (Fn.func (43 : Nat)) [] [], AV.tsl nn (Sh.struct [Sh.str, Sh.int IntKind.i64]) ((0 : Nat) + (1 : Nat)) (0 : Nat) n Cap.tight], Ent.tbl false (Sh.struct [Sh.str, Sh.int IntKind.i64]) l]))
    (False) := by kernel_rfl
theorem rank_body (k : List UInt8) (nn : Bool) (n : Nat) (l : List D) (K : AV → St → Prop) : bodyK Try.prog prP noL 100 37 [] [.ptr (some (0, 0)), .str k] (mS 43 l nn n) K =
  br (okM (Sh.struct [Sh.str, Sh.int IntKind.i64]) (Sh.struct [Sh.str, Sh.int IntKind.i64]) l n)
    (K (AV.int IntKind.i64 (↑(bs l k) : Int)) [Ent.cells [AV.fn (Fn.func (43 : Nat)) [] [], AV.tsl nn (Sh.struct [Sh.str, Sh.int IntKind.i64]) ((0 : Nat) + (1 : Nat)) (0 : Nat) n Cap.tight], Ent.tbl false (Sh.struct [Sh.str, Sh.int IntKind.i64]) l])
    (False) := by kernel_rfl
theorem prP_ok : PrOk Try.prog prP := prOk_add find_ok (prOk_add pins_ok (prOk_add pdel_ok prOk_none))
theorem rankM_ok : SpecOk Try.prog 37 (rankMF 43).f := specOk_comes fun args s v s' tch e => by
  simp only [rankMF] at e
  split at e
  · rename_i k g nn e0 n sh l
    obtain ⟨hg, rfl, rfl, rfl⟩ := run_ok e
    simp only [Bool.and_eq_true, okM_iff] at hg
    obtain ⟨h1, h2, h3, hl, hn⟩ := hg
    have h1 := Nat.eq_of_beq_eq_true h1
    subst h1 h2 h3
    refine comes_of ok prP_ok (L := 100) (ms := []) (by kernel_rfl) loops_none ?_
    refine Eq.mpr (rank_body ..) ?_
    exact br_t (okM_mk hl hn) ⟨rfl, rfl⟩
  · cases e
theorem getM_ok : SpecOk Try.prog 33 (getMF 43).f := specOk_comes fun args s v s' tch e => by
  simp only [getMF] at e
  split at e
  · rename_i k g nn e0 n sh l
    obtain ⟨hg, rfl, rfl, rfl⟩ := run_ok e
    simp only [Bool.and_eq_true, okM_iff] at hg
    obtain ⟨h1, h2, h3, hl, hn⟩ := hg
    have h1 := Nat.eq_of_beq_eq_true h1
    subst h1 h2 h3
    refine comes_of ok prP_ok (L := 100) (ms := []) (by kernel_rfl) loops_none ?_
    refine Eq.mpr (get_body ..) ?_
    refine br_t (okM_mk hl hn) (br_mk (fun h => ?_) (fun h => ?_))
    · rw [Bool.not_eq_true'] at h
      exact ⟨by simp only [getK, h], rfl⟩
    · rw [Bool.not_eq_false'] at h
      have hb := hasB_lt h
      refine br_t (by simp; omega) (br_t (by simp; omega) ⟨?_, rfl⟩)
      rw [Nat.zero_add, Int.toNat_natCast]
      simp only [getK, h, numD]
  · cases e
theorem putM_ok : SpecOk Try.prog 34 (putMF 43).f := specOk_comes fun args s v s' tch e => by
  simp only [putMF] at e
  split at e
  · rename_i k x g nn e0 n sh l
    simp only [RT.run] at e
    split at e
    · rename_i hh
      obtain ⟨hg, rfl, rfl, rfl⟩ := run_ok (g := _) e
      simp only [Bool.and_eq_true, okM_iff] at hg
      obtain ⟨h1, h2, h3, hl, hn⟩ := hg
      have h1 := Nat.eq_of_beq_eq_true h1
      subst h1 h2 h3
      refine comes_of ok prP_ok (L := 100) (ms := []) (by kernel_rfl) loops_none ?_
      refine Eq.mpr (put_body ..) ?_
      have hb := hasB_lt hh
      refine br_t (okM_mk hl hn) (br_t hh (br_t (by simp; omega) (br_t (by simp; omega) ⟨rfl, ?_⟩)))
      simp only [Nat.zero_add, Int.toNat_natCast]
      rfl
    · rename_i hh
      obtain ⟨hg, rfl, rfl, rfl⟩ := run_ok (g := _) e
      simp only [Bool.and_eq_true, okM_iff] at hg
      obtain ⟨h1, h2, h3, hl, hn⟩ := hg
      have h1 := Nat.eq_of_beq_eq_true h1
      subst h1 h2 h3
      refine comes_of ok prP_ok (L := 100) (ms := []) (by kernel_rfl) loops_none ?_
      refine Eq.mpr (put_body ..) ?_
      have hb := bs_le l k
      refine br_t (okM_mk hl hn) (br_mk (fun h => by rw [hh] at h; cases h) (fun _ => br_t ?_ ⟨rfl, ?_⟩))
      · simp only [Bool.and_eq_true, decide_eq_true_eq]
        exact ⟨by rw [hl]; exact Nat.beq_refl n, by omega, by omega, by omega⟩
      · rw [Int.toNat_natCast]
        rfl
  · cases e
theorem delM_ok : SpecOk Try.prog 35 (delMF 43).f := specOk_comes fun args s v s' tch e => by
  simp only [delMF] at e
  split at e
  · rename_i k g nn e0 n sh l
    simp only [RT.run] at e
    split at e
    · rename_i hh
      obtain ⟨hg, rfl, rfl, rfl⟩ := run_ok (g := _) e
      simp only [Bool.and_eq_true, okM_iff] at hg
      obtain ⟨h1, h2, h3, hl, hn⟩ := hg
      have h1 := Nat.eq_of_beq_eq_true h1
      subst h1 h2 h3
      refine comes_of ok prP_ok (L := 100) (ms := []) (by kernel_rfl) loops_none ?_
      refine Eq.mpr (mdel_body ..) ?_
      have hb := hasB_lt hh
      rw [wrap64 (x := (bs l k : Int) + 1) (by omega) (by omega)]
      refine br_t (okM_mk hl hn) (br_t hh (br_t ?_ ⟨by rw [hh], ?_⟩))
      · simp only [Bool.and_eq_true, decide_eq_true_eq]
        exact ⟨by rw [hl]; exact Nat.beq_refl n, by omega, by first | omega | trivial, by omega, by omega⟩
      · rw [Int.toNat_natCast]
        rfl
    · rename_i hh
      obtain ⟨hg, rfl, rfl, rfl⟩ := run_ok (g := _) e
      simp only [Bool.and_eq_true, okM_iff] at hg
      obtain ⟨h1, h2, h3, hl, hn⟩ := hg
      have h1 := Nat.eq_of_beq_eq_true h1
      subst h1 h2 h3
      refine comes_of ok prP_ok (L := 100) (ms := []) (by kernel_rfl) loops_none ?_
      refine Eq.mpr (mdel_body ..) ?_
      exact br_t (okM_mk hl hn) (br_mk (fun h => by rw [hh] at h; cases h) (fun _ => ⟨by rw [hh], rfl⟩))
  · cases e
def prL : FuncId → Option Sy.Spec := addP 36 (lenMF 43) noP
theorem at_body (i : Int) (nn : Bool) (n : Nat) (l : List D) (K : AV → St → Prop) : bodyK Try.prog prL noL 100 38 [] [.ptr (some (0, 0)), .int .i64 i] (mS 43 l nn n) K =
  br (decide (i < (0 : Int)))
    (K (AV.tup [AV.str [], AV.int IntKind.i64 (0 : Int), AV.bool false]) [Ent.cells [AV.fn (Fn.func (43 : Nat)) [] [], AV.tsl nn (Sh.struct [Sh.str, Sh.int IntKind.i64]) (1 : Nat) (0 : Nat) n Cap.tight], Ent.tbl false (Sh.struct [Sh.str, Sh.int IntKind.i64]) l])
    (br (okM (Sh.struct [Sh.str, Sh.int IntKind.i64]) (Sh.struct [Sh.str, Sh.int IntKind.i64]) l n)
      (br (decide (i ≥ (↑n : Int)))
        (K (AV.tup [AV.str [], AV.int IntKind.i64 (0 : Int), AV.bool false]) [Ent.cells [AV.fn (Fn.func (43 : Nat)) [] [], AV.tsl nn (Sh.struct [Sh.str, Sh.int IntKind.i64]) ((0 : Nat) + (1 : Nat)) (0 : Nat) n Cap.tight], Ent.tbl false (Sh.struct [Sh.str, Sh.int IntKind.i64]) l])
        (br (decide ((0 : Int) ≤ i) && decide (i < (↑n : Int)))
          (br (decide ((0 : Nat) + i.toNat < l.length))
            (br (decide ((0 : Int) ≤ i) && decide (i < (↑n : Int)))
              (br (decide ((0 : Nat) + i.toNat < l.length))
                (K (AV.tup [AV.str ((l.getD ((0 : Nat) + i.toNat) D.nul).fld (0 : Nat)).asStr, AV.int IntKind.i64 ((l.getD ((0 : Nat) + i.toNat) D.nul).fld (1 : Nat)).asInt, AV.bool true]) [Ent.cells [AV.fn (Fn.func (43 : Nat)) [] [], AV.tsl nn (Sh.struct [Sh.str, Sh.int IntKind.i64]) ((0 : Nat) + (1 : Nat)) (0 : Nat) n Cap.tight], Ent.tbl false (Sh.struct [Sh.str, Sh.int IntKind.i64]) l])
                (False))
              (False))
            (False))
          (False)))
      (False)) := by kernel_rfl
theorem prL_ok : PrOk Try.prog prL := prOk_add lenM_ok prOk_none
theorem atM_ok : SpecOk Try.prog 38 (atMF 43).f := specOk_comes fun args s v s' tch e => by
  simp only [atMF] at e
  split at e
  · rename_i i g nn e0 n sh l
    simp only [RT.run] at e
    split at e
    · rename_i hh
      simp only [Bool.and_eq_true, decide_eq_true_eq] at hh
      obtain ⟨hg, rfl, rfl, rfl⟩ := run_ok (g := _) e
      simp only [Bool.and_eq_true, okM_iff] at hg
      obtain ⟨h1, h2, h3, hl, hn⟩ := hg
      have h1 := Nat.eq_of_beq_eq_true h1
      subst h1 h2 h3
      refine comes_of ok prL_ok (L := 100) (ms := []) (by kernel_rfl) loops_none ?_
      refine Eq.mpr (at_body ..) ?_
      refine br_iff.2 ⟨fun h => by omega, fun _ => br_t (okM_mk hl hn) (br_iff.2 ⟨fun h => by omega, fun _ => ?_⟩)⟩
      refine br_t (by simp; omega) (br_t (by simp; omega) (br_t (by simp; omega) (br_t (by simp; omega) ⟨?_, rfl⟩)))
      rw [Nat.zero_add]
      rfl
    · rename_i hh
      simp only [Bool.and_eq_false_iff, decide_eq_false_iff_not] at hh
      obtain ⟨hg, rfl, rfl, rfl⟩ := run_ok (g := _) e
      simp only [Bool.and_eq_true, okM_iff] at hg
      obtain ⟨h1, h2, h3, hl, hn⟩ := hg
      have h1 := Nat.eq_of_beq_eq_true h1
      subst h1 h2 h3
      refine comes_of ok prL_ok (L := 100) (ms := []) (by kernel_rfl) loops_none ?_
      refine Eq.mpr (at_body ..) ?_
      refine br_iff.2 ⟨fun h => ⟨rfl, rfl⟩, fun _ => br_t (okM_mk hl hn) (br_iff.2 ⟨fun h => ⟨rfl, rfl⟩, fun _ => by omega⟩)⟩
  · cases e
end Go.Proofs.Ytkfdfenaaidkkaa
