/- Walks: ColumnAll: what is told again. -/
import Derived.Test.YtkfdfenaaidkkaaCol3
import Derived.KernelRfl
set_option linter.unusedSimpArgs false
set_option linter.unusedVariables false
set_option maxRecDepth 100000
namespace Go.Proofs.Ytkfdfenaaidkkaa
open Go Go.Sy
attribute [local irreducible] bodyK roundK cutK
def kC5 : List Keep := [.no, .no, .yes, .no, .no, .no, .no, .no, .yes, .yes, .no, .no, .no, .yes, .yes, .yes]
def kC6 : List Keep := [.no, .no, .yes, .no, .no, .no, .no, .no, .yes, .yes, .no, .no, .no, .yes, .yes, .yes, .no, .no, .yes, .yes]
def tC5 (at_ : Int) (b n : Nat) (w nl : Int) (i : Nat) : List AV := [.any, .any, .int .i64 at_, .any, .any, .any, .any, .any, .ptr (some (0, 0)), .tsl false shV b 0 n .tight, .any, .any, .any, .int .i64 w, .int .i64 nl, .int .i64 (i : Int)] ++ padAny 203
def tC6 (at_ : Int) (b n : Nat) (w nl : Int) (i : Nat) (is_ : Bool) (k : Nat) : List AV := [.any, .any, .int .i64 at_, .any, .any, .any, .any, .any, .ptr (some (0, 0)), .tsl false shV b 0 n .tight, .any, .any, .any, .int .i64 w, .int .i64 nl, .int .i64 (i : Int), .any, .any, .bool is_, .int .i64 (k : Int)] ++ padAny 199
def lp1 (G0 F G H : LoopS) : Nat → Option LoopS := addL 0 (headG 0 kC1 G0) (lpC F G H)
def lp2 (I G0 F G H : LoopS) : Nat → Option LoopS := addL 4 (headG 0 kC6 I) (lp1 G0 F G H)
def lp3 (J I G0 F G H : LoopS) : Nat → Option LoopS := addL 2 (headG 0 kC5 J) (lp2 I G0 F G H)
theorem call_b (F G H G0 I J : LoopS) (kind at_ : Int) (nn : Bool) (o : List D) (K : AV → St → Prop) : bodyK Try.prog prCL (lp3 J I G0 F G H) 100 7 [] [.int .i64 kind, .fz nn shO o, .int .i64 at_] [] K  =
  br (!decide (kind = (1 : Int)))
    (br (!decide (kind = (2 : Int)))
      (br (!decide (kind = (1 : Int)))
        (br (!decide (kind = (2 : Int)))
          (K (AV.bool true) [])
          (G0 (([AV.int IntKind.i64 kind, AV.fz nn (Sh.struct [Sh.int IntKind.i64, Sh.int IntKind.i64, shV]) o, AV.int IntKind.i64 at_, .any, .any, .any, .any, .any, AV.ptr none, AV.tsl false (shV) (0 : Nat) (0 : Nat) (0 : Nat) Cap.tight, AV.int IntKind.i64 (0 : Int)] ++ padAny 208)) ([Ent.tbl false (shV) []]) (contB Try.prog prCL (lp3 J I G0 F G H) 100 7 [] [] 0 K)))
        (G0 (([AV.int IntKind.i64 kind, AV.fz nn (Sh.struct [Sh.int IntKind.i64, Sh.int IntKind.i64, shV]) o, AV.int IntKind.i64 at_, .any, .any, .any, .any, .any, AV.ptr none, AV.tsl false (shV) (0 : Nat) (0 : Nat) (0 : Nat) Cap.tight, AV.int IntKind.i64 (0 : Int)] ++ padAny 208)) ([Ent.tbl false (shV) []]) (contB Try.prog prCL (lp3 J I G0 F G H) 100 7 [] [] 0 K)))
      (br (!decide (kind = (1 : Int)))
        (br (!decide (kind = (2 : Int)))
          (K (AV.bool false) [])
          (G0 (([AV.int IntKind.i64 kind, AV.fz nn (Sh.struct [Sh.int IntKind.i64, Sh.int IntKind.i64, shV]) o, AV.int IntKind.i64 at_, .any, .any, .any, .any, .any, AV.ptr (some ((0 : Nat), (0 : Nat))), AV.tsl false (shV) (2 : Nat) (0 : Nat) (0 : Nat) Cap.tight, AV.int IntKind.i64 (0 : Int)] ++ padAny 208)) ([Ent.cells [AV.int IntKind.i64 kind, AV.tsl false (shV) (1 : Nat) (0 : Nat) (0 : Nat) Cap.tight, AV.ptr none, AV.int IntKind.i64 (0 : Int)], Ent.tbl false (shV) [], Ent.tbl false (shV) []]) (contB Try.prog prCL (lp3 J I G0 F G H) 100 7 [] [] 0 K)))
        (G0 (([AV.int IntKind.i64 kind, AV.fz nn (Sh.struct [Sh.int IntKind.i64, Sh.int IntKind.i64, shV]) o, AV.int IntKind.i64 at_, .any, .any, .any, .any, .any, AV.ptr (some ((0 : Nat), (0 : Nat))), AV.tsl false (shV) (2 : Nat) (0 : Nat) (0 : Nat) Cap.tight, AV.int IntKind.i64 (0 : Int)] ++ padAny 208)) ([Ent.cells [AV.int IntKind.i64 kind, AV.tsl false (shV) (1 : Nat) (0 : Nat) (0 : Nat) Cap.tight, AV.ptr none, AV.int IntKind.i64 (0 : Int)], Ent.tbl false (shV) [], Ent.tbl false (shV) []]) (contB Try.prog prCL (lp3 J I G0 F G H) 100 7 [] [] 0 K))))
    (br (!decide (kind = (1 : Int)))
      (br (!decide (kind = (2 : Int)))
        (K (AV.bool false) [])
        (G0 (([AV.int IntKind.i64 kind, AV.fz nn (Sh.struct [Sh.int IntKind.i64, Sh.int IntKind.i64, shV]) o, AV.int IntKind.i64 at_, .any, .any, .any, .any, .any, AV.ptr (some ((0 : Nat), (0 : Nat))), AV.tsl false (shV) (2 : Nat) (0 : Nat) (0 : Nat) Cap.tight, AV.int IntKind.i64 (0 : Int)] ++ padAny 208)) ([Ent.cells [AV.int IntKind.i64 kind, AV.tsl false (shV) (1 : Nat) (0 : Nat) (0 : Nat) Cap.tight, AV.ptr none, AV.int IntKind.i64 (0 : Int)], Ent.tbl false (shV) [], Ent.tbl false (shV) []]) (contB Try.prog prCL (lp3 J I G0 F G H) 100 7 [] [] 0 K)))
      (G0 (([AV.int IntKind.i64 kind, AV.fz nn (Sh.struct [Sh.int IntKind.i64, Sh.int IntKind.i64, shV]) o, AV.int IntKind.i64 at_, .any, .any, .any, .any, .any, AV.ptr (some ((0 : Nat), (0 : Nat))), AV.tsl false (shV) (2 : Nat) (0 : Nat) (0 : Nat) Cap.tight, AV.int IntKind.i64 (0 : Int)] ++ padAny 208)) ([Ent.cells [AV.int IntKind.i64 kind, AV.tsl false (shV) (1 : Nat) (0 : Nat) (0 : Nat) Cap.tight, AV.ptr none, AV.int IntKind.i64 (0 : Int)], Ent.tbl false (shV) [], Ent.tbl false (shV) []]) (contB Try.prog prCL (lp3 J I G0 F G H) 100 7 [] [] 0 K))) := by kernel_rfl
theorem call_bn (F G H G0 I J : LoopS) (kind at_ : Int) (K : AV → St → Prop) : bodyK Try.prog prCL (lp3 J I G0 F G H) 100 7 [] [.int .i64 kind, .nilSl, .int .i64 at_] [] K  =
  br (!decide (kind = (1 : Int)))
    (br (!decide (kind = (2 : Int)))
      (br (!decide (kind = (1 : Int)))
        (br (!decide (kind = (2 : Int)))
          (K (AV.bool true) [])
          (G0 (([AV.int IntKind.i64 kind, AV.nilSl, AV.int IntKind.i64 at_, .any, .any, .any, .any, .any, AV.ptr none, AV.tsl false (shV) (0 : Nat) (0 : Nat) (0 : Nat) Cap.tight, AV.int IntKind.i64 (0 : Int)] ++ padAny 208)) ([Ent.tbl false (shV) []]) (contB Try.prog prCL (lp3 J I G0 F G H) 100 7 [] [] 0 K)))
        (G0 (([AV.int IntKind.i64 kind, AV.nilSl, AV.int IntKind.i64 at_, .any, .any, .any, .any, .any, AV.ptr none, AV.tsl false (shV) (0 : Nat) (0 : Nat) (0 : Nat) Cap.tight, AV.int IntKind.i64 (0 : Int)] ++ padAny 208)) ([Ent.tbl false (shV) []]) (contB Try.prog prCL (lp3 J I G0 F G H) 100 7 [] [] 0 K)))
      (br (!decide (kind = (1 : Int)))
        (br (!decide (kind = (2 : Int)))
          (K (AV.bool false) [])
          (G0 (([AV.int IntKind.i64 kind, AV.nilSl, AV.int IntKind.i64 at_, .any, .any, .any, .any, .any, AV.ptr (some ((0 : Nat), (0 : Nat))), AV.tsl false (shV) (2 : Nat) (0 : Nat) (0 : Nat) Cap.tight, AV.int IntKind.i64 (0 : Int)] ++ padAny 208)) ([Ent.cells [AV.int IntKind.i64 kind, AV.tsl false (shV) (1 : Nat) (0 : Nat) (0 : Nat) Cap.tight, AV.ptr none, AV.int IntKind.i64 (0 : Int)], Ent.tbl false (shV) [], Ent.tbl false (shV) []]) (contB Try.prog prCL (lp3 J I G0 F G H) 100 7 [] [] 0 K)))
        (G0 (([AV.int IntKind.i64 kind, AV.nilSl, AV.int IntKind.i64 at_, .any, .any, .any, .any, .any, AV.ptr (some ((0 : Nat), (0 : Nat))), AV.tsl false (shV) (2 : Nat) (0 : Nat) (0 : Nat) Cap.tight, AV.int IntKind.i64 (0 : Int)] ++ padAny 208)) ([Ent.cells [AV.int IntKind.i64 kind, AV.tsl false (shV) (1 : Nat) (0 : Nat) (0 : Nat) Cap.tight, AV.ptr none, AV.int IntKind.i64 (0 : Int)], Ent.tbl false (shV) [], Ent.tbl false (shV) []]) (contB Try.prog prCL (lp3 J I G0 F G H) 100 7 [] [] 0 K))))
    (br (!decide (kind = (1 : Int)))
      (br (!decide (kind = (2 : Int)))
        (K (AV.bool false) [])
        (G0 (([AV.int IntKind.i64 kind, AV.nilSl, AV.int IntKind.i64 at_, .any, .any, .any, .any, .any, AV.ptr (some ((0 : Nat), (0 : Nat))), AV.tsl false (shV) (2 : Nat) (0 : Nat) (0 : Nat) Cap.tight, AV.int IntKind.i64 (0 : Int)] ++ padAny 208)) ([Ent.cells [AV.int IntKind.i64 kind, AV.tsl false (shV) (1 : Nat) (0 : Nat) (0 : Nat) Cap.tight, AV.ptr none, AV.int IntKind.i64 (0 : Int)], Ent.tbl false (shV) [], Ent.tbl false (shV) []]) (contB Try.prog prCL (lp3 J I G0 F G H) 100 7 [] [] 0 K)))
      (G0 (([AV.int IntKind.i64 kind, AV.nilSl, AV.int IntKind.i64 at_, .any, .any, .any, .any, .any, AV.ptr (some ((0 : Nat), (0 : Nat))), AV.tsl false (shV) (2 : Nat) (0 : Nat) (0 : Nat) Cap.tight, AV.int IntKind.i64 (0 : Int)] ++ padAny 208)) ([Ent.cells [AV.int IntKind.i64 kind, AV.tsl false (shV) (1 : Nat) (0 : Nat) (0 : Nat) Cap.tight, AV.ptr none, AV.int IntKind.i64 (0 : Int)], Ent.tbl false (shV) [], Ent.tbl false (shV) []]) (contB Try.prog prCL (lp3 J I G0 F G H) 100 7 [] [] 0 K))) := by kernel_rfl
theorem mid_0 (F G H G0 I J : LoopS) (kind at_ : Int) (nn : Bool) (o : List D) (z n i : Nat) (q : Bool) (vl : List D) (u : Int) (rl : List D) (K : AV → St → Prop) : contB Try.prog prCL (lp3 J I G0 F G H) 100 7 [] [] 0 K .normal (tC1 kind at_ nn o 2 n i) [.cells [.int .i64 kind, .tsl q shV 1 0 z .tight, .ptr none, .int .i64 u], .tbl false shV vl, .tbl false shV rl]  =
  J (([.any, .any, AV.int IntKind.i64 at_, .any, .any, .any, .any, .any, AV.ptr (some ((0 : Nat), (0 : Nat))), AV.tsl false (shV) (2 : Nat) (0 : Nat) n Cap.tight, .any, .any, .any, AV.int IntKind.i64 (0 : Int), AV.int IntKind.i64 (0 : Int), AV.int IntKind.i64 (0 : Int)] ++ padAny 203)) ([Ent.cells [AV.int IntKind.i64 kind, AV.tsl q (shV) (1 : Nat) (0 : Nat) z Cap.tight, AV.ptr none, AV.int IntKind.i64 u], Ent.tbl false (shV) vl, Ent.tbl false (shV) rl]) (contB Try.prog prCL (lp3 J I G0 F G H) 100 7 [] [] 2 K) := by kernel_rfl
theorem r2_0 (F G H G0 I : LoopS) (kind at_ : Int) (z n : Nat) (w nl : Int) (i : Nat) (q : Bool) (vl : List D) (u : Int) (rl : List D) (more : List AV → St → Prop) (kk : KS) : roundK Try.prog prCL (lp2 I G0 F G H) 100 7 2 (tC5 at_ 2 n w nl i) [.cells [.int .i64 kind, .tsl q shV 1 0 z .tight, .ptr none, .int .i64 u], .tbl false shV vl, .tbl false shV rl] (againK 0 2 kC5 kC5 more kk)  =
  br (decide ((↑i : Int) < (↑n : Int)))
    (br (decide ((↑i : Int) ≥ (↑z : Int)))
      (kk Ex.ret ([.any, .any, AV.int IntKind.i64 at_, .any, .any, .any, .any, .any, AV.ptr (some ((0 : Nat), (0 : Nat))), AV.tsl false (shV) (2 : Nat) (0 : Nat) n Cap.tight, .any, .any, .any, AV.int IntKind.i64 w, AV.int IntKind.i64 nl, AV.int IntKind.i64 (↑i : Int)] ++ padAny 203) [Ent.cells [AV.int IntKind.i64 kind, AV.tsl q (shV) (1 : Nat) (0 : Nat) z Cap.tight, AV.ptr none, AV.int IntKind.i64 u], Ent.tbl false (shV) vl, Ent.tbl false (shV) rl])
      (br (decide ((0 : Int) ≤ (↑i : Int)) && decide ((↑i : Int) < (↑z : Int)))
        (br (decide ((0 : Nat) + (↑i : Int).toNat < vl.length))
          (br (decide ((0 : Int) ≤ (↑i : Int)) && decide ((↑i : Int) < (↑n : Int)))
            (br (decide ((0 : Nat) + (↑i : Int).toNat < rl.length))
              (br (!decide (cmp3 ((vl.getD ((0 : Nat) + (↑i : Int).toNat) D.nul).fld (0 : Nat)).asInt ((vl.getD ((0 : Nat) + (↑i : Int).toNat) D.nul).fld (1 : Nat)).asInt ((vl.getD ((0 : Nat) + (↑i : Int).toNat) D.nul).fld (2 : Nat)).asStr ((rl.getD ((0 : Nat) + (↑i : Int).toNat) D.nul).fld (0 : Nat)).asInt ((rl.getD ((0 : Nat) + (↑i : Int).toNat) D.nul).fld (1 : Nat)).asInt ((rl.getD ((0 : Nat) + (↑i : Int).toNat) D.nul).fld (2 : Nat)).asStr = (0 : Int)))
                (kk Ex.ret ([.any, .any, AV.int IntKind.i64 at_, .any, .any, .any, .any, .any, AV.ptr (some ((0 : Nat), (0 : Nat))), AV.tsl false (shV) (2 : Nat) (0 : Nat) n Cap.tight, .any, .any, .any, AV.int IntKind.i64 w, AV.int IntKind.i64 nl, AV.int IntKind.i64 (↑i : Int)] ++ padAny 203) [Ent.cells [AV.int IntKind.i64 kind, AV.tsl q (shV) (1 : Nat) (0 : Nat) z Cap.tight, AV.ptr none, AV.int IntKind.i64 u], Ent.tbl false (shV) vl, Ent.tbl false (shV) rl])
                (br (decide ((0 : Int) ≤ (↑i : Int)) && decide ((↑i : Int) < (↑n : Int)))
                  (br (decide ((0 : Nat) + (↑i : Int).toNat < rl.length))
                    (I (([.any, .any, AV.int IntKind.i64 at_, .any, .any, .any, .any, .any, AV.ptr (some ((0 : Nat), (0 : Nat))), AV.tsl false (shV) (2 : Nat) (0 : Nat) n Cap.tight, .any, .any, .any, AV.int IntKind.i64 w, AV.int IntKind.i64 nl, AV.int IntKind.i64 (↑i : Int), .any, .any, AV.bool (decide (((rl.getD ((0 : Nat) + (↑i : Int).toNat) D.nul).fld (0 : Nat)).asInt = (2 : Int))), AV.int IntKind.i64 (0 : Int)] ++ padAny 199)) ([Ent.cells [AV.int IntKind.i64 kind, AV.tsl q (shV) (1 : Nat) (0 : Nat) z Cap.tight, AV.ptr none, AV.int IntKind.i64 u], Ent.tbl false (shV) vl, Ent.tbl false (shV) rl]) (contR Try.prog prCL (lp2 I G0 F G H) 100 7 2 4 (againK 0 2 kC5 kC5 more kk)))
                    (False))
                  (False)))
              (False))
            (False))
          (False))
        (False)))
    (kk Ex.normal ([.any, .any, AV.int IntKind.i64 at_, .any, .any, .any, .any, .any, AV.ptr (some ((0 : Nat), (0 : Nat))), AV.tsl false (shV) (2 : Nat) (0 : Nat) n Cap.tight, .any, .any, .any, AV.int IntKind.i64 w, AV.int IntKind.i64 nl, AV.int IntKind.i64 (↑i : Int)] ++ padAny 203) [Ent.cells [AV.int IntKind.i64 kind, AV.tsl q (shV) (1 : Nat) (0 : Nat) z Cap.tight, AV.ptr none, AV.int IntKind.i64 u], Ent.tbl false (shV) vl, Ent.tbl false (shV) rl]) := by kernel_rfl
theorem e4_0 (F G H G0 I : LoopS) (kind at_ : Int) (z n : Nat) (w nl : Int) (i : Nat) (is_ : Bool) (k : Nat) (q : Bool) (vl : List D) (u : Int) (rl : List D) (more : List AV → St → Prop) (kk : KS) : contR Try.prog prCL (lp2 I G0 F G H) 100 7 2 4 (againK 0 2 kC5 kC5 more kk) .normal (tC6 at_ 2 n w nl i is_ k) [.cells [.int .i64 kind, .tsl q shV 1 0 z .tight, .ptr none, .int .i64 u], .tbl false shV vl, .tbl false shV rl] =
  br (is_)
    (br (decide ((0 : Int) ≤ (↑i : Int)) && decide ((↑i : Int) < (↑n : Int)))
      (br (decide ((0 : Nat) + (↑i : Int).toNat < rl.length))
        (br (decide (((rl.getD ((0 : Nat) + (↑i : Int).toNat) D.nul).fld (0 : Nat)).asInt = (0 : Int)))
          (more ([.any, .any, AV.int IntKind.i64 at_, .any, .any, .any, .any, .any, AV.ptr (some ((0 : Nat), (0 : Nat))), AV.tsl false (shV) (2 : Nat) (0 : Nat) n Cap.tight, .any, .any, .any, AV.int IntKind.i64 (IntKind.i64.wrap (w + (1 : Int))), AV.int IntKind.i64 (IntKind.i64.wrap (nl + (1 : Int))), AV.int IntKind.i64 (IntKind.i64.wrap ((↑i : Int) + (1 : Int)))] ++ padAny 203) [Ent.cells [AV.int IntKind.i64 kind, AV.tsl q (shV) (1 : Nat) (0 : Nat) z Cap.tight, AV.ptr none, AV.int IntKind.i64 u], Ent.tbl false (shV) vl, Ent.tbl false (shV) rl])
          (more ([.any, .any, AV.int IntKind.i64 at_, .any, .any, .any, .any, .any, AV.ptr (some ((0 : Nat), (0 : Nat))), AV.tsl false (shV) (2 : Nat) (0 : Nat) n Cap.tight, .any, .any, .any, AV.int IntKind.i64 (IntKind.i64.wrap (w + (1 : Int))), AV.int IntKind.i64 nl, AV.int IntKind.i64 (IntKind.i64.wrap ((↑i : Int) + (1 : Int)))] ++ padAny 203) [Ent.cells [AV.int IntKind.i64 kind, AV.tsl q (shV) (1 : Nat) (0 : Nat) z Cap.tight, AV.ptr none, AV.int IntKind.i64 u], Ent.tbl false (shV) vl, Ent.tbl false (shV) rl]))
        (False))
      (False))
    (br (decide ((0 : Int) ≤ (↑i : Int)) && decide ((↑i : Int) < (↑n : Int)))
      (br (decide ((0 : Nat) + (↑i : Int).toNat < rl.length))
        (br (decide (((rl.getD ((0 : Nat) + (↑i : Int).toNat) D.nul).fld (0 : Nat)).asInt = (0 : Int)))
          (more ([.any, .any, AV.int IntKind.i64 at_, .any, .any, .any, .any, .any, AV.ptr (some ((0 : Nat), (0 : Nat))), AV.tsl false (shV) (2 : Nat) (0 : Nat) n Cap.tight, .any, .any, .any, AV.int IntKind.i64 w, AV.int IntKind.i64 (IntKind.i64.wrap (nl + (1 : Int))), AV.int IntKind.i64 (IntKind.i64.wrap ((↑i : Int) + (1 : Int)))] ++ padAny 203) [Ent.cells [AV.int IntKind.i64 kind, AV.tsl q (shV) (1 : Nat) (0 : Nat) z Cap.tight, AV.ptr none, AV.int IntKind.i64 u], Ent.tbl false (shV) vl, Ent.tbl false (shV) rl])
          (more ([.any, .any, AV.int IntKind.i64 at_, .any, .any, .any, .any, .any, AV.ptr (some ((0 : Nat), (0 : Nat))), AV.tsl false (shV) (2 : Nat) (0 : Nat) n Cap.tight, .any, .any, .any, AV.int IntKind.i64 w, AV.int IntKind.i64 nl, AV.int IntKind.i64 (IntKind.i64.wrap ((↑i : Int) + (1 : Int)))] ++ padAny 203) [Ent.cells [AV.int IntKind.i64 kind, AV.tsl q (shV) (1 : Nat) (0 : Nat) z Cap.tight, AV.ptr none, AV.int IntKind.i64 u], Ent.tbl false (shV) vl, Ent.tbl false (shV) rl]))
        (False))
      (False)) := by kernel_rfl
theorem r4_0 (F G H G0 : LoopS) (kind at_ : Int) (z n : Nat) (w nl : Int) (i : Nat) (is_ : Bool) (k : Nat) (q : Bool) (vl : List D) (u : Int) (rl : List D) (more : List AV → St → Prop) (kk : KS) : roundK Try.prog prCL (lp1 G0 F G H) 100 7 4 (tC6 at_ 2 n w nl i is_ k) [.cells [.int .i64 kind, .tsl q shV 1 0 z .tight, .ptr none, .int .i64 u], .tbl false shV vl, .tbl false shV rl] (againK 0 4 kC6 kC6 more kk) =
  br (decide ((↑k : Int) < (↑i : Int)))
    (br (is_)
      (br (decide ((0 : Int) ≤ (↑k : Int)) && decide ((↑k : Int) < (↑n : Int)))
        (br (decide ((0 : Nat) + (↑k : Int).toNat < rl.length))
          (br (decide ((0 : Int) ≤ (↑i : Int)) && decide ((↑i : Int) < (↑n : Int)))
            (br (decide ((0 : Nat) + (↑i : Int).toNat < rl.length))
              (more ([.any, .any, AV.int IntKind.i64 at_, .any, .any, .any, .any, .any, AV.ptr (some ((0 : Nat), (0 : Nat))), AV.tsl false (shV) (2 : Nat) (0 : Nat) n Cap.tight, .any, .any, .any, AV.int IntKind.i64 w, AV.int IntKind.i64 nl, AV.int IntKind.i64 (↑i : Int), .any, .any, AV.bool !decide (cmp3 ((rl.getD ((0 : Nat) + (↑k : Int).toNat) D.nul).fld (0 : Nat)).asInt ((rl.getD ((0 : Nat) + (↑k : Int).toNat) D.nul).fld (1 : Nat)).asInt ((rl.getD ((0 : Nat) + (↑k : Int).toNat) D.nul).fld (2 : Nat)).asStr ((rl.getD ((0 : Nat) + (↑i : Int).toNat) D.nul).fld (0 : Nat)).asInt ((rl.getD ((0 : Nat) + (↑i : Int).toNat) D.nul).fld (1 : Nat)).asInt ((rl.getD ((0 : Nat) + (↑i : Int).toNat) D.nul).fld (2 : Nat)).asStr = (0 : Int)), AV.int IntKind.i64 (IntKind.i64.wrap ((↑k : Int) + (1 : Int)))] ++ padAny 199) [Ent.cells [AV.int IntKind.i64 kind, AV.tsl q (shV) (1 : Nat) (0 : Nat) z Cap.tight, AV.ptr none, AV.int IntKind.i64 u], Ent.tbl false (shV) vl, Ent.tbl false (shV) rl])
              (False))
            (False))
          (False))
        (False))
      (more ([.any, .any, AV.int IntKind.i64 at_, .any, .any, .any, .any, .any, AV.ptr (some ((0 : Nat), (0 : Nat))), AV.tsl false (shV) (2 : Nat) (0 : Nat) n Cap.tight, .any, .any, .any, AV.int IntKind.i64 w, AV.int IntKind.i64 nl, AV.int IntKind.i64 (↑i : Int), .any, .any, AV.bool false, AV.int IntKind.i64 (IntKind.i64.wrap ((↑k : Int) + (1 : Int)))] ++ padAny 199) [Ent.cells [AV.int IntKind.i64 kind, AV.tsl q (shV) (1 : Nat) (0 : Nat) z Cap.tight, AV.ptr none, AV.int IntKind.i64 u], Ent.tbl false (shV) vl, Ent.tbl false (shV) rl]))
    (kk Ex.normal ([.any, .any, AV.int IntKind.i64 at_, .any, .any, .any, .any, .any, AV.ptr (some ((0 : Nat), (0 : Nat))), AV.tsl false (shV) (2 : Nat) (0 : Nat) n Cap.tight, .any, .any, .any, AV.int IntKind.i64 w, AV.int IntKind.i64 nl, AV.int IntKind.i64 (↑i : Int), .any, .any, AV.bool is_, AV.int IntKind.i64 (↑k : Int)] ++ padAny 199) [Ent.cells [AV.int IntKind.i64 kind, AV.tsl q (shV) (1 : Nat) (0 : Nat) z Cap.tight, AV.ptr none, AV.int IntKind.i64 u], Ent.tbl false (shV) vl, Ent.tbl false (shV) rl]) := by kernel_rfl
theorem e2_0 (F G H G0 I J : LoopS) (kind at_ : Int) (z n : Nat) (w nl : Int) (i : Nat) (q : Bool) (vl : List D) (u : Int) (rl : List D) (K : AV → St → Prop) : contB Try.prog prCL (lp3 J I G0 F G H) 100 7 [] [] 2 K .normal (tC5 at_ 2 n w nl i) [.cells [.int .i64 kind, .tsl q shV 1 0 z .tight, .ptr none, .int .i64 u], .tbl false shV vl, .tbl false shV rl] =
  br (decide (at_ < (0 : Int)))
    (br (decide ((↑z : Int) = (↑n : Int)))
      (br (okC (shV) (shV) vl z)
        (br (decide ((0 : Int) = w))
          (br (decide (u = nl))
            (br (decide (at_ ≥ (0 : Int)))
              (br (false == decide (at_ < (↑n : Int)))
                (K (AV.bool true) [])
                (K (AV.bool false) []))
              (K (AV.bool true) []))
            (K (AV.bool false) []))
          (K (AV.bool false) []))
        (False))
      (K (AV.bool false) []))
    (br (decide (at_ ≥ (↑z : Int)))
      (br (decide ((↑z : Int) = (↑n : Int)))
        (br (okC (shV) (shV) vl z)
          (br (decide ((0 : Int) = w))
            (br (decide (u = nl))
              (br (decide (at_ ≥ (0 : Int)))
                (br (false == decide (at_ < (↑n : Int)))
                  (K (AV.bool true) [])
                  (K (AV.bool false) []))
                (K (AV.bool true) []))
              (K (AV.bool false) []))
            (K (AV.bool false) []))
          (False))
        (K (AV.bool false) []))
      (br (decide ((0 : Int) ≤ at_) && decide (at_ < (↑z : Int)))
        (br (decide ((0 : Nat) + at_.toNat < vl.length))
          (br (decide ((↑z : Int) = (↑n : Int)))
            (br (okC (shV) (shV) vl z)
              (br (decide ((0 : Int) = w))
                (br (decide (u = nl))
                  (br (decide (at_ ≥ (0 : Int)))
                    (br (true == decide (at_ < (↑n : Int)))
                      (K (AV.bool true) [])
                      (K (AV.bool false) []))
                    (K (AV.bool false) []))
                  (K (AV.bool false) []))
                (K (AV.bool false) []))
              (False))
            (K (AV.bool false) []))
          (False))
        (False))) := by kernel_rfl
theorem mid_1 (F G H G0 I J : LoopS) (kind at_ : Int) (nn : Bool) (o : List D) (z n i : Nat) (q : Bool) (vl : List D) (u : Int) (m : Nat) (l : List D) (rl : List D) (K : AV → St → Prop) : contB Try.prog prCL (lp3 J I G0 F G H) 100 7 [] [] 0 K .normal (tC1 kind at_ nn o 4 n i) [.cells [.int .i64 kind, .tsl q shV 1 0 z .tight, .ptr (some (2, 0)), .int .i64 u], .tbl false shV vl, .cells [.fn (.func 43) [] [], .tsl false shP 3 0 m .tight], .tbl false shP l, .tbl false shV rl]  =
  J (([.any, .any, AV.int IntKind.i64 at_, .any, .any, .any, .any, .any, AV.ptr (some ((0 : Nat), (0 : Nat))), AV.tsl false (shV) (4 : Nat) (0 : Nat) n Cap.tight, .any, .any, .any, AV.int IntKind.i64 (0 : Int), AV.int IntKind.i64 (0 : Int), AV.int IntKind.i64 (0 : Int)] ++ padAny 203)) ([Ent.cells [AV.int IntKind.i64 kind, AV.tsl q (shV) (1 : Nat) (0 : Nat) z Cap.tight, AV.ptr (some ((2 : Nat), (0 : Nat))), AV.int IntKind.i64 u], Ent.tbl false (shV) vl, Ent.cells [AV.fn (Fn.func (43 : Nat)) [] [], AV.tsl false (Sh.struct [Sh.str, Sh.int IntKind.i64]) (3 : Nat) (0 : Nat) m Cap.tight], Ent.tbl false (Sh.struct [Sh.str, Sh.int IntKind.i64]) l, Ent.tbl false (shV) rl]) (contB Try.prog prCL (lp3 J I G0 F G H) 100 7 [] [] 2 K) := by kernel_rfl
theorem r2_1 (F G H G0 I : LoopS) (kind at_ : Int) (z n : Nat) (w nl : Int) (i : Nat) (q : Bool) (vl : List D) (u : Int) (m : Nat) (l : List D) (rl : List D) (more : List AV → St → Prop) (kk : KS) : roundK Try.prog prCL (lp2 I G0 F G H) 100 7 2 (tC5 at_ 4 n w nl i) [.cells [.int .i64 kind, .tsl q shV 1 0 z .tight, .ptr (some (2, 0)), .int .i64 u], .tbl false shV vl, .cells [.fn (.func 43) [] [], .tsl false shP 3 0 m .tight], .tbl false shP l, .tbl false shV rl] (againK 0 2 kC5 kC5 more kk)  =
  br (decide ((↑i : Int) < (↑n : Int)))
    (br (decide ((↑i : Int) ≥ (↑z : Int)))
      (kk Ex.ret ([.any, .any, AV.int IntKind.i64 at_, .any, .any, .any, .any, .any, AV.ptr (some ((0 : Nat), (0 : Nat))), AV.tsl false (shV) (4 : Nat) (0 : Nat) n Cap.tight, .any, .any, .any, AV.int IntKind.i64 w, AV.int IntKind.i64 nl, AV.int IntKind.i64 (↑i : Int)] ++ padAny 203) [Ent.cells [AV.int IntKind.i64 kind, AV.tsl q (shV) (1 : Nat) (0 : Nat) z Cap.tight, AV.ptr (some ((2 : Nat), (0 : Nat))), AV.int IntKind.i64 u], Ent.tbl false (shV) vl, Ent.cells [AV.fn (Fn.func (43 : Nat)) [] [], AV.tsl false (Sh.struct [Sh.str, Sh.int IntKind.i64]) (3 : Nat) (0 : Nat) m Cap.tight], Ent.tbl false (Sh.struct [Sh.str, Sh.int IntKind.i64]) l, Ent.tbl false (shV) rl])
      (br (decide ((0 : Int) ≤ (↑i : Int)) && decide ((↑i : Int) < (↑z : Int)))
        (br (decide ((0 : Nat) + (↑i : Int).toNat < vl.length))
          (br (decide ((0 : Int) ≤ (↑i : Int)) && decide ((↑i : Int) < (↑n : Int)))
            (br (decide ((0 : Nat) + (↑i : Int).toNat < rl.length))
              (br (!decide (cmp3 ((vl.getD ((0 : Nat) + (↑i : Int).toNat) D.nul).fld (0 : Nat)).asInt ((vl.getD ((0 : Nat) + (↑i : Int).toNat) D.nul).fld (1 : Nat)).asInt ((vl.getD ((0 : Nat) + (↑i : Int).toNat) D.nul).fld (2 : Nat)).asStr ((rl.getD ((0 : Nat) + (↑i : Int).toNat) D.nul).fld (0 : Nat)).asInt ((rl.getD ((0 : Nat) + (↑i : Int).toNat) D.nul).fld (1 : Nat)).asInt ((rl.getD ((0 : Nat) + (↑i : Int).toNat) D.nul).fld (2 : Nat)).asStr = (0 : Int)))
                (kk Ex.ret ([.any, .any, AV.int IntKind.i64 at_, .any, .any, .any, .any, .any, AV.ptr (some ((0 : Nat), (0 : Nat))), AV.tsl false (shV) (4 : Nat) (0 : Nat) n Cap.tight, .any, .any, .any, AV.int IntKind.i64 w, AV.int IntKind.i64 nl, AV.int IntKind.i64 (↑i : Int)] ++ padAny 203) [Ent.cells [AV.int IntKind.i64 kind, AV.tsl q (shV) (1 : Nat) (0 : Nat) z Cap.tight, AV.ptr (some ((2 : Nat), (0 : Nat))), AV.int IntKind.i64 u], Ent.tbl false (shV) vl, Ent.cells [AV.fn (Fn.func (43 : Nat)) [] [], AV.tsl false (Sh.struct [Sh.str, Sh.int IntKind.i64]) (3 : Nat) (0 : Nat) m Cap.tight], Ent.tbl false (Sh.struct [Sh.str, Sh.int IntKind.i64]) l, Ent.tbl false (shV) rl])
                (br (decide ((0 : Int) ≤ (↑i : Int)) && decide ((↑i : Int) < (↑n : Int)))
                  (br (decide ((0 : Nat) + (↑i : Int).toNat < rl.length))
                    (I (([.any, .any, AV.int IntKind.i64 at_, .any, .any, .any, .any, .any, AV.ptr (some ((0 : Nat), (0 : Nat))), AV.tsl false (shV) (4 : Nat) (0 : Nat) n Cap.tight, .any, .any, .any, AV.int IntKind.i64 w, AV.int IntKind.i64 nl, AV.int IntKind.i64 (↑i : Int), .any, .any, AV.bool (decide (((rl.getD ((0 : Nat) + (↑i : Int).toNat) D.nul).fld (0 : Nat)).asInt = (2 : Int))), AV.int IntKind.i64 (0 : Int)] ++ padAny 199)) ([Ent.cells [AV.int IntKind.i64 kind, AV.tsl q (shV) (1 : Nat) (0 : Nat) z Cap.tight, AV.ptr (some ((2 : Nat), (0 : Nat))), AV.int IntKind.i64 u], Ent.tbl false (shV) vl, Ent.cells [AV.fn (Fn.func (43 : Nat)) [] [], AV.tsl false (Sh.struct [Sh.str, Sh.int IntKind.i64]) (3 : Nat) (0 : Nat) m Cap.tight], Ent.tbl false (Sh.struct [Sh.str, Sh.int IntKind.i64]) l, Ent.tbl false (shV) rl]) (contR Try.prog prCL (lp2 I G0 F G H) 100 7 2 4 (againK 0 2 kC5 kC5 more kk)))
                    (False))
                  (False)))
              (False))
            (False))
          (False))
        (False)))
    (kk Ex.normal ([.any, .any, AV.int IntKind.i64 at_, .any, .any, .any, .any, .any, AV.ptr (some ((0 : Nat), (0 : Nat))), AV.tsl false (shV) (4 : Nat) (0 : Nat) n Cap.tight, .any, .any, .any, AV.int IntKind.i64 w, AV.int IntKind.i64 nl, AV.int IntKind.i64 (↑i : Int)] ++ padAny 203) [Ent.cells [AV.int IntKind.i64 kind, AV.tsl q (shV) (1 : Nat) (0 : Nat) z Cap.tight, AV.ptr (some ((2 : Nat), (0 : Nat))), AV.int IntKind.i64 u], Ent.tbl false (shV) vl, Ent.cells [AV.fn (Fn.func (43 : Nat)) [] [], AV.tsl false (Sh.struct [Sh.str, Sh.int IntKind.i64]) (3 : Nat) (0 : Nat) m Cap.tight], Ent.tbl false (Sh.struct [Sh.str, Sh.int IntKind.i64]) l, Ent.tbl false (shV) rl]) := by kernel_rfl
theorem e4_1 (F G H G0 I : LoopS) (kind at_ : Int) (z n : Nat) (w nl : Int) (i : Nat) (is_ : Bool) (k : Nat) (q : Bool) (vl : List D) (u : Int) (m : Nat) (l : List D) (rl : List D) (more : List AV → St → Prop) (kk : KS) : contR Try.prog prCL (lp2 I G0 F G H) 100 7 2 4 (againK 0 2 kC5 kC5 more kk) .normal (tC6 at_ 4 n w nl i is_ k) [.cells [.int .i64 kind, .tsl q shV 1 0 z .tight, .ptr (some (2, 0)), .int .i64 u], .tbl false shV vl, .cells [.fn (.func 43) [] [], .tsl false shP 3 0 m .tight], .tbl false shP l, .tbl false shV rl] =
  br (is_)
    (br (decide ((0 : Int) ≤ (↑i : Int)) && decide ((↑i : Int) < (↑n : Int)))
      (br (decide ((0 : Nat) + (↑i : Int).toNat < rl.length))
        (br (decide (((rl.getD ((0 : Nat) + (↑i : Int).toNat) D.nul).fld (0 : Nat)).asInt = (0 : Int)))
          (more ([.any, .any, AV.int IntKind.i64 at_, .any, .any, .any, .any, .any, AV.ptr (some ((0 : Nat), (0 : Nat))), AV.tsl false (shV) (4 : Nat) (0 : Nat) n Cap.tight, .any, .any, .any, AV.int IntKind.i64 (IntKind.i64.wrap (w + (1 : Int))), AV.int IntKind.i64 (IntKind.i64.wrap (nl + (1 : Int))), AV.int IntKind.i64 (IntKind.i64.wrap ((↑i : Int) + (1 : Int)))] ++ padAny 203) [Ent.cells [AV.int IntKind.i64 kind, AV.tsl q (shV) (1 : Nat) (0 : Nat) z Cap.tight, AV.ptr (some ((2 : Nat), (0 : Nat))), AV.int IntKind.i64 u], Ent.tbl false (shV) vl, Ent.cells [AV.fn (Fn.func (43 : Nat)) [] [], AV.tsl false (Sh.struct [Sh.str, Sh.int IntKind.i64]) (3 : Nat) (0 : Nat) m Cap.tight], Ent.tbl false (Sh.struct [Sh.str, Sh.int IntKind.i64]) l, Ent.tbl false (shV) rl])
          (more ([.any, .any, AV.int IntKind.i64 at_, .any, .any, .any, .any, .any, AV.ptr (some ((0 : Nat), (0 : Nat))), AV.tsl false (shV) (4 : Nat) (0 : Nat) n Cap.tight, .any, .any, .any, AV.int IntKind.i64 (IntKind.i64.wrap (w + (1 : Int))), AV.int IntKind.i64 nl, AV.int IntKind.i64 (IntKind.i64.wrap ((↑i : Int) + (1 : Int)))] ++ padAny 203) [Ent.cells [AV.int IntKind.i64 kind, AV.tsl q (shV) (1 : Nat) (0 : Nat) z Cap.tight, AV.ptr (some ((2 : Nat), (0 : Nat))), AV.int IntKind.i64 u], Ent.tbl false (shV) vl, Ent.cells [AV.fn (Fn.func (43 : Nat)) [] [], AV.tsl false (Sh.struct [Sh.str, Sh.int IntKind.i64]) (3 : Nat) (0 : Nat) m Cap.tight], Ent.tbl false (Sh.struct [Sh.str, Sh.int IntKind.i64]) l, Ent.tbl false (shV) rl]))
        (False))
      (False))
    (br (decide ((0 : Int) ≤ (↑i : Int)) && decide ((↑i : Int) < (↑n : Int)))
      (br (decide ((0 : Nat) + (↑i : Int).toNat < rl.length))
        (br (decide (((rl.getD ((0 : Nat) + (↑i : Int).toNat) D.nul).fld (0 : Nat)).asInt = (0 : Int)))
          (more ([.any, .any, AV.int IntKind.i64 at_, .any, .any, .any, .any, .any, AV.ptr (some ((0 : Nat), (0 : Nat))), AV.tsl false (shV) (4 : Nat) (0 : Nat) n Cap.tight, .any, .any, .any, AV.int IntKind.i64 w, AV.int IntKind.i64 (IntKind.i64.wrap (nl + (1 : Int))), AV.int IntKind.i64 (IntKind.i64.wrap ((↑i : Int) + (1 : Int)))] ++ padAny 203) [Ent.cells [AV.int IntKind.i64 kind, AV.tsl q (shV) (1 : Nat) (0 : Nat) z Cap.tight, AV.ptr (some ((2 : Nat), (0 : Nat))), AV.int IntKind.i64 u], Ent.tbl false (shV) vl, Ent.cells [AV.fn (Fn.func (43 : Nat)) [] [], AV.tsl false (Sh.struct [Sh.str, Sh.int IntKind.i64]) (3 : Nat) (0 : Nat) m Cap.tight], Ent.tbl false (Sh.struct [Sh.str, Sh.int IntKind.i64]) l, Ent.tbl false (shV) rl])
          (more ([.any, .any, AV.int IntKind.i64 at_, .any, .any, .any, .any, .any, AV.ptr (some ((0 : Nat), (0 : Nat))), AV.tsl false (shV) (4 : Nat) (0 : Nat) n Cap.tight, .any, .any, .any, AV.int IntKind.i64 w, AV.int IntKind.i64 nl, AV.int IntKind.i64 (IntKind.i64.wrap ((↑i : Int) + (1 : Int)))] ++ padAny 203) [Ent.cells [AV.int IntKind.i64 kind, AV.tsl q (shV) (1 : Nat) (0 : Nat) z Cap.tight, AV.ptr (some ((2 : Nat), (0 : Nat))), AV.int IntKind.i64 u], Ent.tbl false (shV) vl, Ent.cells [AV.fn (Fn.func (43 : Nat)) [] [], AV.tsl false (Sh.struct [Sh.str, Sh.int IntKind.i64]) (3 : Nat) (0 : Nat) m Cap.tight], Ent.tbl false (Sh.struct [Sh.str, Sh.int IntKind.i64]) l, Ent.tbl false (shV) rl]))
        (False))
      (False)) := by kernel_rfl
theorem r4_1 (F G H G0 : LoopS) (kind at_ : Int) (z n : Nat) (w nl : Int) (i : Nat) (is_ : Bool) (k : Nat) (q : Bool) (vl : List D) (u : Int) (m : Nat) (l : List D) (rl : List D) (more : List AV → St → Prop) (kk : KS) : roundK Try.prog prCL (lp1 G0 F G H) 100 7 4 (tC6 at_ 4 n w nl i is_ k) [.cells [.int .i64 kind, .tsl q shV 1 0 z .tight, .ptr (some (2, 0)), .int .i64 u], .tbl false shV vl, .cells [.fn (.func 43) [] [], .tsl false shP 3 0 m .tight], .tbl false shP l, .tbl false shV rl] (againK 0 4 kC6 kC6 more kk) =
  br (decide ((↑k : Int) < (↑i : Int)))
    (br (is_)
      (br (decide ((0 : Int) ≤ (↑k : Int)) && decide ((↑k : Int) < (↑n : Int)))
        (br (decide ((0 : Nat) + (↑k : Int).toNat < rl.length))
          (br (decide ((0 : Int) ≤ (↑i : Int)) && decide ((↑i : Int) < (↑n : Int)))
            (br (decide ((0 : Nat) + (↑i : Int).toNat < rl.length))
              (more ([.any, .any, AV.int IntKind.i64 at_, .any, .any, .any, .any, .any, AV.ptr (some ((0 : Nat), (0 : Nat))), AV.tsl false (shV) (4 : Nat) (0 : Nat) n Cap.tight, .any, .any, .any, AV.int IntKind.i64 w, AV.int IntKind.i64 nl, AV.int IntKind.i64 (↑i : Int), .any, .any, AV.bool !decide (cmp3 ((rl.getD ((0 : Nat) + (↑k : Int).toNat) D.nul).fld (0 : Nat)).asInt ((rl.getD ((0 : Nat) + (↑k : Int).toNat) D.nul).fld (1 : Nat)).asInt ((rl.getD ((0 : Nat) + (↑k : Int).toNat) D.nul).fld (2 : Nat)).asStr ((rl.getD ((0 : Nat) + (↑i : Int).toNat) D.nul).fld (0 : Nat)).asInt ((rl.getD ((0 : Nat) + (↑i : Int).toNat) D.nul).fld (1 : Nat)).asInt ((rl.getD ((0 : Nat) + (↑i : Int).toNat) D.nul).fld (2 : Nat)).asStr = (0 : Int)), AV.int IntKind.i64 (IntKind.i64.wrap ((↑k : Int) + (1 : Int)))] ++ padAny 199) [Ent.cells [AV.int IntKind.i64 kind, AV.tsl q (shV) (1 : Nat) (0 : Nat) z Cap.tight, AV.ptr (some ((2 : Nat), (0 : Nat))), AV.int IntKind.i64 u], Ent.tbl false (shV) vl, Ent.cells [AV.fn (Fn.func (43 : Nat)) [] [], AV.tsl false (Sh.struct [Sh.str, Sh.int IntKind.i64]) (3 : Nat) (0 : Nat) m Cap.tight], Ent.tbl false (Sh.struct [Sh.str, Sh.int IntKind.i64]) l, Ent.tbl false (shV) rl])
              (False))
            (False))
          (False))
        (False))
      (more ([.any, .any, AV.int IntKind.i64 at_, .any, .any, .any, .any, .any, AV.ptr (some ((0 : Nat), (0 : Nat))), AV.tsl false (shV) (4 : Nat) (0 : Nat) n Cap.tight, .any, .any, .any, AV.int IntKind.i64 w, AV.int IntKind.i64 nl, AV.int IntKind.i64 (↑i : Int), .any, .any, AV.bool false, AV.int IntKind.i64 (IntKind.i64.wrap ((↑k : Int) + (1 : Int)))] ++ padAny 199) [Ent.cells [AV.int IntKind.i64 kind, AV.tsl q (shV) (1 : Nat) (0 : Nat) z Cap.tight, AV.ptr (some ((2 : Nat), (0 : Nat))), AV.int IntKind.i64 u], Ent.tbl false (shV) vl, Ent.cells [AV.fn (Fn.func (43 : Nat)) [] [], AV.tsl false (Sh.struct [Sh.str, Sh.int IntKind.i64]) (3 : Nat) (0 : Nat) m Cap.tight], Ent.tbl false (Sh.struct [Sh.str, Sh.int IntKind.i64]) l, Ent.tbl false (shV) rl]))
    (kk Ex.normal ([.any, .any, AV.int IntKind.i64 at_, .any, .any, .any, .any, .any, AV.ptr (some ((0 : Nat), (0 : Nat))), AV.tsl false (shV) (4 : Nat) (0 : Nat) n Cap.tight, .any, .any, .any, AV.int IntKind.i64 w, AV.int IntKind.i64 nl, AV.int IntKind.i64 (↑i : Int), .any, .any, AV.bool is_, AV.int IntKind.i64 (↑k : Int)] ++ padAny 199) [Ent.cells [AV.int IntKind.i64 kind, AV.tsl q (shV) (1 : Nat) (0 : Nat) z Cap.tight, AV.ptr (some ((2 : Nat), (0 : Nat))), AV.int IntKind.i64 u], Ent.tbl false (shV) vl, Ent.cells [AV.fn (Fn.func (43 : Nat)) [] [], AV.tsl false (Sh.struct [Sh.str, Sh.int IntKind.i64]) (3 : Nat) (0 : Nat) m Cap.tight], Ent.tbl false (Sh.struct [Sh.str, Sh.int IntKind.i64]) l, Ent.tbl false (shV) rl]) := by kernel_rfl
theorem e2_1 (F G H G0 I J : LoopS) (kind at_ : Int) (z n : Nat) (w nl : Int) (i : Nat) (q : Bool) (vl : List D) (u : Int) (m : Nat) (l : List D) (rl : List D) (K : AV → St → Prop) : contB Try.prog prCL (lp3 J I G0 F G H) 100 7 [] [] 2 K .normal (tC5 at_ 4 n w nl i) [.cells [.int .i64 kind, .tsl q shV 1 0 z .tight, .ptr (some (2, 0)), .int .i64 u], .tbl false shV vl, .cells [.fn (.func 43) [] [], .tsl false shP 3 0 m .tight], .tbl false shP l, .tbl false shV rl] =
  br (decide (at_ < (0 : Int)))
    (br (decide ((↑z : Int) = (↑n : Int)))
      (br (okC (shV) (shV) vl z && okM (Sh.struct [Sh.str, Sh.int IntKind.i64]) (Sh.struct [Sh.str, Sh.int IntKind.i64]) l m)
        (br (decide ((↑m : Int) = w))
          (br (decide (u = nl))
            (br (decide (at_ ≥ (0 : Int)))
              (br (false == decide (at_ < (↑n : Int)))
                (K (AV.bool true) [])
                (K (AV.bool false) []))
              (K (AV.bool true) []))
            (K (AV.bool false) []))
          (K (AV.bool false) []))
        (False))
      (K (AV.bool false) []))
    (br (decide (at_ ≥ (↑z : Int)))
      (br (decide ((↑z : Int) = (↑n : Int)))
        (br (okC (shV) (shV) vl z && okM (Sh.struct [Sh.str, Sh.int IntKind.i64]) (Sh.struct [Sh.str, Sh.int IntKind.i64]) l m)
          (br (decide ((↑m : Int) = w))
            (br (decide (u = nl))
              (br (decide (at_ ≥ (0 : Int)))
                (br (false == decide (at_ < (↑n : Int)))
                  (K (AV.bool true) [])
                  (K (AV.bool false) []))
                (K (AV.bool true) []))
              (K (AV.bool false) []))
            (K (AV.bool false) []))
          (False))
        (K (AV.bool false) []))
      (br (decide ((0 : Int) ≤ at_) && decide (at_ < (↑z : Int)))
        (br (decide ((0 : Nat) + at_.toNat < vl.length))
          (br (decide ((↑z : Int) = (↑n : Int)))
            (br (okC (shV) (shV) vl z && okM (Sh.struct [Sh.str, Sh.int IntKind.i64]) (Sh.struct [Sh.str, Sh.int IntKind.i64]) l m)
              (br (decide ((↑m : Int) = w))
                (br (decide (u = nl))
                  (br (decide (at_ ≥ (0 : Int)))
                    (br (true == decide (at_ < (↑n : Int)))
                      (K (AV.bool true) [])
                      (K (AV.bool false) []))
                    (K (AV.bool false) []))
                  (K (AV.bool false) []))
                (K (AV.bool false) []))
              (False))
            (K (AV.bool false) []))
          (False))
        (False))) := by kernel_rfl

theorem step0 {kind at_ : Int} {nn : Bool} {o : List D} (hkind : kind = 1 ∨ kind = 2) : ∀ m t s kk, MC kind at_ nn o m t s kk → roundK Try.prog prCL (lpC (M12 kind at_ nn o) (M16 kind at_ nn o) (M21 kind at_ nn o)) 100 7 0 t s (againK 0 0 kC1 kC1 (fun t' s' => ∃ m', m' < m ∧ MC kind at_ nn o m' t' s' kk) kk) := by
  rintro m t s kk ⟨i, q, vl, u, o', hm, rfl, rfl, hc, hi, hk⟩
  have hin : i < o.length → (decide ((0 : Int) ≤ (↑i : Int)) && decide ((↑i : Int) < (↑o.length : Int))) = true := fun h => by
    simp only [Bool.and_eq_true, decide_eq_true_eq]; omega
  cases o' with
  | none =>
    refine Eq.mpr (call_r0 _ _ _ kind at_ nn o vl.length i q vl u vl _ kk) ?_
    refine br_iff.2 ⟨fun h1 => br_iff.2 ⟨fun h2 => br_t (hin (by omega)) ?_, fun h2 => ?_⟩, fun h1 => ?_⟩
    · exact ⟨_, _, _, vl.length, i, q, vl, u, vl, none, cut20 _, rfl, rfl, leaf12n hkind (cut20 _) hi hm (by omega) hc hk⟩
    · have := hk q vl u none hc
      rw [show min o.length 50 = i by omega] at this
      exact this
    · have := hk q vl u none hc
      rw [show min o.length 50 = i by omega] at this
      exact this
  | some l =>
    refine Eq.mpr (call_r1 _ _ _ kind at_ nn o vl.length i q vl u l.length l vl _ kk) ?_
    refine br_iff.2 ⟨fun h1 => br_iff.2 ⟨fun h2 => br_t (hin (by omega)) ?_, fun h2 => ?_⟩, fun h1 => ?_⟩
    · exact ⟨_, _, _, vl.length, i, q, vl, u, vl, some l, cut20 _, rfl, rfl, leaf12s hkind (cut20 _) hi hm (by omega) hc hk⟩
    · have := hk q vl u (some l) hc
      rw [show min o.length 50 = i by omega] at this
      exact this
    · have := hk q vl u (some l) hc
      rw [show min o.length 50 = i by omega] at this
      exact this
theorem newT_succ (vl : List D) (i k : Nat) : newT vl i (k + 1) = (newT vl i k && !decide (cmpD (vl.getD k .nul) (vl.getD i .nul) = 0)) := by
  unfold newT
  rw [List.range_succ, List.all_append]
  simp [Bool.and_assoc]
def MI (kind at_ : Int) (m : Nat) (t : List AV) (s : St) (kk : KS) : Prop := ∃ (q : Bool) (vl : List D) (u : Int) (o' : Option (List D)) (w nl : Int) (i k : Nat), m + k = i ∧ i < vl.length ∧ vl.length ≤ 50 ∧ t = tC6 at_ (bC o') vl.length w nl i (newT vl i k) k ∧ s = gC kind q vl.length vl u vl o' ∧
  kk .normal (tC6 at_ (bC o') vl.length w nl i (newT vl i i) i) (gC kind q vl.length vl u vl o')
theorem stepI (F G H G0 : LoopS) (kind at_ : Int) : ∀ m t s kk, MI kind at_ m t s kk → roundK Try.prog prCL (lp1 G0 F G H) 100 7 4 t s (againK 0 4 kC6 kC6 (fun t' s' => ∃ m', m' < m ∧ MI kind at_ m' t' s' kk) kk) := by
  rintro m t s kk ⟨q, vl, u, o', w, nl, i, k, hm, hi, h50, rfl, rfl, hk⟩
  have hw : IntKind.i64.wrap ((k : Int) + 1) = ((k + 1 : Nat) : Int) := by rw [wrap64 (by omega) (by omega)]; rfl
  have more : ∀ t' s', k < i → t' = tC6 at_ (bC o') vl.length w nl i (newT vl i (k + 1)) (k + 1) → s' = gC kind q vl.length vl u vl o' → ∃ m', m' < m ∧ MI kind at_ m' t' s' kk := fun t' s' h e1 e2 => ⟨m - 1, by omega, q, vl, u, o', w, nl, i, k + 1, by omega, hi, h50, e1, e2, hk⟩
  have hend : ¬ k < i → k = i := fun h => by omega
  have h0 : k < i → (decide ((0 : Int) ≤ (↑k : Int)) && decide ((↑k : Int) < (↑vl.length : Int))) = true := fun h => by simp only [Bool.and_eq_true, decide_eq_true_eq]; omega
  have h1 : (decide ((0 : Int) ≤ (↑i : Int)) && decide ((↑i : Int) < (↑vl.length : Int))) = true := by simp only [Bool.and_eq_true, decide_eq_true_eq]; omega
  have h2 : k < i → decide ((0 : Nat) + (↑k : Int).toNat < vl.length) = true := fun h => decide_eq_true (by omega)
  have h3 : decide ((0 : Nat) + (↑i : Int).toNat < vl.length) = true := decide_eq_true (by omega)
  cases o' with
  | none =>
    refine Eq.mpr (r4_0 F G H G0 kind at_ vl.length vl.length w nl i (newT vl i k) k q vl u vl _ kk) ?_
    refine br_iff.2 ⟨fun g => ?_, fun g => ?_⟩
    · have g' : k < i := by omega
      refine br_mk (fun e => br_t (h0 g') (br_t (h2 g') (br_t h1 (br_t h3 ?_)))) (fun e => ?_)
      · rw [hw, Nat.zero_add, Nat.zero_add, Int.toNat_natCast, Int.toNat_natCast]
        refine more _ _ g' ?_ rfl
        rw [newT_succ, e, Bool.true_and]
        rfl
      · rw [hw]
        refine more _ _ g' ?_ rfl
        rw [newT_succ, e, Bool.false_and]
        rfl
    · have e := hend (by omega)
      subst e
      exact hk
  | some l =>
    refine Eq.mpr (r4_1 F G H G0 kind at_ vl.length vl.length w nl i (newT vl i k) k q vl u l.length l vl _ kk) ?_
    refine br_iff.2 ⟨fun g => ?_, fun g => ?_⟩
    · have g' : k < i := by omega
      refine br_mk (fun e => br_t (h0 g') (br_t (h2 g') (br_t h1 (br_t h3 ?_)))) (fun e => ?_)
      · rw [hw, Nat.zero_add, Nat.zero_add, Int.toNat_natCast, Int.toNat_natCast]
        refine more _ _ g' ?_ rfl
        rw [newT_succ, e, Bool.true_and]
        rfl
      · rw [hw]
        refine more _ _ g' ?_ rfl
        rw [newT_succ, e, Bool.false_and]
        rfl
    · have e := hend (by omega)
      subst e
      exact hk
def MJ (kind at_ : Int) (m : Nat) (t : List AV) (s : St) (kk : KS) : Prop := ∃ (q : Bool) (vl : List D) (u : Int) (o' : Option (List D)) (i : Nat), m + i = vl.length ∧ vl.length ≤ 50 ∧ t = tC5 at_ (bC o') vl.length (wordsN vl i : Int) (nls (vl.take i)) i ∧ s = gC kind q vl.length vl u vl o' ∧
  kk .normal (tC5 at_ (bC o') vl.length (wordsN vl vl.length : Int) (nls vl) vl.length) (gC kind q vl.length vl u vl o')
theorem nls_take (vl : List D) {i : Nat} (h : i < vl.length) : nls (vl.take (i + 1)) = nls (vl.take i) + nlO (vl.getD i .nul) := by
  rw [take_one h, nls_append, nls_one]
theorem stepJ (F G H G0 : LoopS) (kind at_ : Int) : ∀ m t s kk, MJ kind at_ m t s kk → roundK Try.prog prCL (lp2 (byM (MI kind at_)) G0 F G H) 100 7 2 t s (againK 0 2 kC5 kC5 (fun t' s' => ∃ m', m' < m ∧ MJ kind at_ m' t' s' kk) kk) := by
  rintro m t s kk ⟨q, vl, u, o', i, hm, h50, rfl, rfl, hk⟩
  have hw : IntKind.i64.wrap ((i : Int) + 1) = ((i + 1 : Nat) : Int) := by rw [wrap64 (by omega) (by omega)]; rfl
  have hwn := wordsN_le vl i
  have hnl := nls_bound (vl.take i)
  rw [List.length_take] at hnl
  have hw2 : IntKind.i64.wrap ((wordsN vl i : Int) + 1) = (wordsN vl i : Int) + 1 := wrap64 (by omega) (by omega)
  have hw3 : IntKind.i64.wrap (nls (vl.take i) + 1) = nls (vl.take i) + 1 := wrap64 (by omega) (by omega)
  have more : ∀ t' s', i < vl.length → t' = tC5 at_ (bC o') vl.length (wordsN vl (i + 1) : Int) (nls (vl.take (i + 1))) (i + 1) → s' = gC kind q vl.length vl u vl o' → ∃ m', m' < m ∧ MJ kind at_ m' t' s' kk := fun t' s' h e1 e2 => ⟨m - 1, by omega, q, vl, u, o', i + 1, by omega, h50, e1, e2, hk⟩
  have h1 : i < vl.length → (decide ((0 : Int) ≤ (↑i : Int)) && decide ((↑i : Int) < (↑vl.length : Int))) = true := fun h => by simp only [Bool.and_eq_true, decide_eq_true_eq]; omega
  have h3 : i < vl.length → decide ((0 : Nat) + (↑i : Int).toNat < vl.length) = true := fun h => decide_eq_true (by omega)
  have hself : ∀ d : D, (!decide (cmp3 (d.fld 0).asInt (d.fld 1).asInt (d.fld 2).asStr (d.fld 0).asInt (d.fld 1).asInt (d.fld 2).asStr = 0)) = false := fun d => by rw [cmp3_zero.2 ⟨rfl, rfl, rfl⟩]; rfl
  have wt : newT vl i i = true → (wordsN vl (i + 1) : Int) = (wordsN vl i : Int) + 1 := fun h => by rw [wordsN, if_pos h]; omega
  have wf : newT vl i i = false → (wordsN vl (i + 1) : Int) = (wordsN vl i : Int) := fun h => by rw [wordsN, if_neg (by rw [h]; simp)]; omega
  cases o' with
  | none =>
    refine Eq.mpr (r2_0 F G H G0 _ kind at_ vl.length vl.length _ _ i q vl u vl _ kk) ?_
    refine br_iff.2 ⟨fun g => ?_, fun g => ?_⟩
    · have g' : i < vl.length := by omega
      refine br_iff.2 ⟨fun h => by omega, fun _ => br_t (h1 g') (br_t (h3 g') (br_t (h1 g') (br_t (h3 g') ?_)))⟩
      rw [hself, brF]
      refine br_t (h1 g') (br_t (h3 g') ?_)
      rw [Nat.zero_add, Int.toNat_natCast]
      refine ⟨i, q, vl, u, none, (wordsN vl i : Int), nls (vl.take i), i, 0, by omega, g', h50, ?_, rfl, ?_⟩
      · unfold newT
        simp only [List.range_zero, List.all_nil, Bool.and_true]
        rfl
      · refine Eq.mpr (e4_0 F G H G0 _ kind at_ vl.length vl.length _ _ i (newT vl i i) i q vl u vl _ kk) ?_
        refine br_mk (fun e => br_t (h1 g') (br_t (h3 g') ?_)) (fun e => br_t (h1 g') (br_t (h3 g') ?_))
        · rw [Nat.zero_add, Int.toNat_natCast, hw, hw2, hw3]
          refine br_iff.2 ⟨fun hz => more _ _ g' ?_ rfl, fun hz => more _ _ g' ?_ rfl⟩
          · rw [wt e, nls_take vl g', show nlO (vl.getD i .nul) = 1 from if_pos hz]; rfl
          · rw [wt e, nls_take vl g', show nlO (vl.getD i .nul) = 0 from if_neg hz, Int.add_zero]; rfl
        · rw [Nat.zero_add, Int.toNat_natCast, hw, hw3]
          refine br_iff.2 ⟨fun hz => more _ _ g' ?_ rfl, fun hz => more _ _ g' ?_ rfl⟩
          · rw [wf e, nls_take vl g', show nlO (vl.getD i .nul) = 1 from if_pos hz]; rfl
          · rw [wf e, nls_take vl g', show nlO (vl.getD i .nul) = 0 from if_neg hz, Int.add_zero]; rfl
    · have e : i = vl.length := by omega
      subst e
      rw [List.take_length]
      exact hk
  | some l =>
    refine Eq.mpr (r2_1 F G H G0 _ kind at_ vl.length vl.length _ _ i q vl u l.length l vl _ kk) ?_
    refine br_iff.2 ⟨fun g => ?_, fun g => ?_⟩
    · have g' : i < vl.length := by omega
      refine br_iff.2 ⟨fun h => by omega, fun _ => br_t (h1 g') (br_t (h3 g') (br_t (h1 g') (br_t (h3 g') ?_)))⟩
      rw [hself, brF]
      refine br_t (h1 g') (br_t (h3 g') ?_)
      rw [Nat.zero_add, Int.toNat_natCast]
      refine ⟨i, q, vl, u, some l, (wordsN vl i : Int), nls (vl.take i), i, 0, by omega, g', h50, ?_, rfl, ?_⟩
      · unfold newT
        simp only [List.range_zero, List.all_nil, Bool.and_true]
        rfl
      · refine Eq.mpr (e4_1 F G H G0 _ kind at_ vl.length vl.length _ _ i (newT vl i i) i q vl u l.length l vl _ kk) ?_
        refine br_mk (fun e => br_t (h1 g') (br_t (h3 g') ?_)) (fun e => br_t (h1 g') (br_t (h3 g') ?_))
        · rw [Nat.zero_add, Int.toNat_natCast, hw, hw2, hw3]
          refine br_iff.2 ⟨fun hz => more _ _ g' ?_ rfl, fun hz => more _ _ g' ?_ rfl⟩
          · rw [wt e, nls_take vl g', show nlO (vl.getD i .nul) = 1 from if_pos hz]; rfl
          · rw [wt e, nls_take vl g', show nlO (vl.getD i .nul) = 0 from if_neg hz, Int.add_zero]; rfl
        · rw [Nat.zero_add, Int.toNat_natCast, hw, hw3]
          refine br_iff.2 ⟨fun hz => more _ _ g' ?_ rfl, fun hz => more _ _ g' ?_ rfl⟩
          · rw [wf e, nls_take vl g', show nlO (vl.getD i .nul) = 1 from if_pos hz]; rfl
          · rw [wf e, nls_take vl g', show nlO (vl.getD i .nul) = 0 from if_neg hz, Int.add_zero]; rfl
    · have e : i = vl.length := by omega
      subst e
      rw [List.take_length]
      exact hk
theorem endC (F G H G0 I J : LoopS) {kind at_ : Int} {q : Bool} {vl : List D} {u : Int} {o' : Option (List D)} (hc : ColInv kind vl u o') :
    contB Try.prog prCL (lp3 J I G0 F G H) 100 7 [] [] 2 (fun v1 s1 => v1 = .bool true ∧ s1 = []) .normal (tC5 at_ (bC o') vl.length (wordsN vl vl.length : Int) (nls vl) vl.length) (gC kind q vl.length vl u vl o') := by
  have hl := hc.len
  have okc : okC shV shV vl vl.length = true := okC_mk rfl (by omega)
  have hz : decide ((↑vl.length : Int) = (↑vl.length : Int)) = true := decide_eq_true rfl
  have hu : decide (u = nls vl) = true := decide_eq_true hc.nul
  have res : ∀ X : Bool, X = true → (fun v1 s1 => v1 = AV.bool true ∧ s1 = ([] : St)) (AV.bool X) [] := fun X h => by rw [h]; exact ⟨rfl, rfl⟩
  cases o' with
  | none =>
    have hwd : decide ((0 : Int) = (wordsN vl vl.length : Int)) = true := decide_eq_true (by rw [words_none hc]; rfl)
    refine Eq.mpr (e2_0 F G H G0 I J kind at_ vl.length vl.length _ _ vl.length q vl u vl _) ?_
    simp only [okc, hz, hu, hwd, brT]
    by_cases h0 : at_ < 0
    · simp only [decide_eq_true h0, decide_eq_false (show ¬ at_ ≥ 0 by omega), brT, brF]
      exact ⟨trivial, trivial⟩
    · by_cases h1 : at_ ≥ (vl.length : Int)
      · simp only [decide_eq_false h0, decide_eq_true h1, decide_eq_true (show at_ ≥ 0 by omega), decide_eq_false (show ¬ at_ < (vl.length : Int) by omega), beq_self_eq_true, brT, brF]
        exact ⟨trivial, trivial⟩
      · simp only [decide_eq_false h0, decide_eq_false h1, decide_eq_true (show at_ ≥ 0 by omega), decide_eq_true (show 0 ≤ at_ by omega), decide_eq_true (show at_ < (vl.length : Int) by omega), decide_eq_true (show 0 + at_.toNat < vl.length by omega), beq_self_eq_true, Bool.and_self, brT, brF]
        exact ⟨trivial, trivial⟩
  | some l =>
    have okm : okM (Sh.struct [Sh.str, Sh.int IntKind.i64]) (Sh.struct [Sh.str, Sh.int IntKind.i64]) l l.length = true := okM_mk rfl (by have := col_len hc; omega)
    have hwd : decide ((l.length : Int) = (wordsN vl vl.length : Int)) = true := decide_eq_true (by rw [words_law hc])
    refine Eq.mpr (e2_1 F G H G0 I J kind at_ vl.length vl.length _ _ vl.length q vl u l.length l vl _) ?_
    simp only [okc, okm, hz, hu, hwd, Bool.and_self, brT]
    by_cases h0 : at_ < 0
    · simp only [decide_eq_true h0, decide_eq_false (show ¬ at_ ≥ 0 by omega), brT, brF]
      exact ⟨trivial, trivial⟩
    · by_cases h1 : at_ ≥ (vl.length : Int)
      · simp only [decide_eq_false h0, decide_eq_true h1, decide_eq_true (show at_ ≥ 0 by omega), decide_eq_false (show ¬ at_ < (vl.length : Int) by omega), beq_self_eq_true, brT, brF]
        exact ⟨trivial, trivial⟩
      · simp only [decide_eq_false h0, decide_eq_false h1, decide_eq_true (show at_ ≥ 0 by omega), decide_eq_true (show 0 ≤ at_ by omega), decide_eq_true (show at_ < (vl.length : Int) by omega), decide_eq_true (show 0 + at_.toNat < vl.length by omega), beq_self_eq_true, Bool.and_self, brT, brF]
        exact ⟨trivial, trivial⟩
theorem columnAll_comes (kind : Int) (o : List D) (at_ : Int) : Sy.Comes Try.prog 7 [.int .i64 kind, .fz false shO o, .int .i64 at_] [] (.bool true) [] := by
  have hd : distinctOk Try.prog 7 = true := by kernel_rfl
  have hl21 : ∀ {kind : Int}, LoopsFor Try.prog 7 0 (lpC (M12 kind at_ false o) (M16 kind at_ false o) (M21 kind at_ false o)) := fun {kind} =>
    cuts_add (ks := kC2) ok prCL_ok (cuts_add (ks := kC3) ok prCL_ok (cuts_add (ks := kC4) ok prCL_ok loops_none (step21 kind at_ false o)) (step16 kind at_ false o)) (step12 kind at_ false o)
  by_cases hkind : kind = 1 ∨ kind = 2
  · refine comes_of ok prCL_ok (L := 100) (ms := []) hd (lp := lp3 (byM (MJ kind at_)) (byM (MI kind at_)) (byM (MC kind at_ false o)) (M12 kind at_ false o) (M16 kind at_ false o) (M21 kind at_ false o))
      (loops_add (L := 100) (kh := kC5) ok prCL_ok hd (loops_add (L := 100) (kh := kC6) ok prCL_ok hd (loops_add (L := 100) (kh := kC1) ok prCL_ok hd hl21 (step0 hkind)) (stepI _ _ _ _ kind at_)) (stepJ _ _ _ _ kind at_)) ?_
    refine Eq.mpr (call_b _ _ _ _ _ _ kind at_ false o _) ?_
    have fin : byM (MC kind at_ false o) (tC1 kind at_ false o 2 0 0) (gC kind false 0 [] 0 [] none) (contB Try.prog prCL (lp3 (byM (MJ kind at_)) (byM (MI kind at_)) (byM (MC kind at_ false o)) (M12 kind at_ false o) (M16 kind at_ false o) (M21 kind at_ false o)) 100 7 [] [] 0 fun v1 s1 => v1 = .bool true ∧ s1 = []) := by
      refine ⟨min o.length 50, 0, false, [], 0, none, by omega, rfl, rfl, col_nil kind, by simp, fun q vl u o' hc => ?_⟩
      have h50 := hc.len
      cases o' with
      | none =>
        refine Eq.mpr (mid_0 _ _ _ _ _ _ kind at_ false o vl.length vl.length _ q vl u vl _) ?_
        exact ⟨vl.length, q, vl, u, none, 0, by omega, h50, rfl, rfl, endC _ _ _ _ _ _ hc⟩
      | some l =>
        refine Eq.mpr (mid_1 _ _ _ _ _ _ kind at_ false o vl.length vl.length _ q vl u l.length l vl _) ?_
        exact ⟨vl.length, q, vl, u, some l, 0, by omega, h50, rfl, rfl, endC _ _ _ _ _ _ hc⟩
    rcases hkind with hk | hk
    · simp only [decide_eq_true hk, Bool.not_true, brF]
      exact fin
    · simp only [decide_eq_true hk, decide_eq_false (show ¬ kind = 1 by omega), Bool.not_true, Bool.not_false, brT, brF]
      exact fin
  · have h1 : ¬ kind = 1 := fun h => hkind (.inl h)
    have h2 : ¬ kind = 2 := fun h => hkind (.inr h)
    refine comes_of ok prCL_ok (L := 100) (ms := []) hd (lp := lp3 (byM (MJ kind at_)) (byM (MI kind at_)) (byM fun _ _ _ _ => False) (M12 kind at_ false o) (M16 kind at_ false o) (M21 kind at_ false o))
      (loops_add (L := 100) (kh := kC5) ok prCL_ok hd (loops_add (L := 100) (kh := kC6) ok prCL_ok hd (loops_add (id := 0) (L := 100) (kh := kC1) (kx := kC1) (ks := kC1) (M := fun _ _ _ _ => False) ok prCL_ok hd hl21 (fun _ _ _ _ h => h.elim)) (stepI _ _ _ _ kind at_)) (stepJ _ _ _ _ kind at_)) ?_
    refine Eq.mpr (call_b _ _ _ _ _ _ kind at_ false o _) ?_
    simp only [decide_eq_false h1, decide_eq_false h2, Bool.not_false, brT]
    exact ⟨trivial, trivial⟩
end Go.Proofs.Ytkfdfenaaidkkaa
