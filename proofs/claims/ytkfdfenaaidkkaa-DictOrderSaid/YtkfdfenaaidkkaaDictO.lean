/- Walks: DictOrder. -/
import Derived.Test.YtkfdfenaaidkkaaDictV
import Derived.Test.YtkfdfenaaidkkaaPvO
import Derived.KernelRfl
set_option linter.unusedSimpArgs false
set_option linter.unusedVariables false
set_option maxRecDepth 100000
namespace Go.Proofs.Ytkfdfenaaidkkaa
open Go Go.Sy
attribute [local irreducible] bodyK roundK
def prO : FuncId → Option Sy.Spec := addP 14 wordsLF prG
theorem prO_ok : PrOk Try.prog prO := prOk_add wordsL_ok prG_ok
def d2S (l : List D) (nn : Bool) (n : Nat) (l' : List D) (nn' : Bool) (n' : Nat) : St := [.cells [.ptr (some (1, 0))], .cells [.fn (.func 43) [] [], .tsl nn shP 2 0 n .tight], .tbl false shP l, .cells [.ptr (some (4, 0))], .cells [.fn (.func 43) [] [], .tsl nn' shP 5 0 n' .tight], .tbl false shP l']
def d0S : St := [.cells [.ptr none], .cells [.ptr none]]
def kO : List Keep := [.yes, .yes, .no, .no, .no, .no, .yes, .yes, .yes]
def tO (fn : Bool) (a : List D) (u : Int) (e i : Nat) : List AV := [.fz fn .str a, .int .i64 u, .any, .any, .any, .any, .ptr (some (0, 0)), .ptr (some (e, 0)), .int .i64 (i : Int)] ++ padAny 89
theorem ord_r0 (fn : Bool) (a : List D) (u : Int) (i : Nat) (more : List AV → St → Prop) (kk : KS) : roundK Try.prog prO noL 100 4 0 (tO fn a u 1 i) d0S (againK 0 0 kO kO more kk) =
  br (decide ((↑i : Int) < (↑a.length : Int)))
    (br (decide ((0 : Int) ≤ (↑i : Int)) && decide ((↑i : Int) < (↑a.length : Int)))
      (br (!decide ((↑a.length : Int) = (0 : Int)))
        (br (!decide ((↑a.length : Int) = (0 : Int)))
          (br (decide ((0 : Int) ≤ (IntKind.i64.wrap ((↑i : Int) + u.tmod (↑a.length : Int))).tmod (↑a.length : Int)) && decide ((IntKind.i64.wrap ((↑i : Int) + u.tmod (↑a.length : Int))).tmod (↑a.length : Int) < (↑a.length : Int)))
            (more ([AV.fz fn Sh.str a, AV.int IntKind.i64 u, .any, .any, .any, .any, AV.ptr (some ((0 : Nat), (0 : Nat))), AV.ptr (some ((0 : Nat) + (1 : Nat) + (1 : Nat) + (1 : Nat), (0 : Nat))), AV.int IntKind.i64 (IntKind.i64.wrap ((↑i : Int) + (1 : Int)))] ++ padAny 89) [Ent.cells [AV.ptr (some ((0 : Nat) + (1 : Nat), (0 : Nat)))], Ent.cells [AV.fn (Fn.func (43 : Nat)) [] [], AV.tsl true (Sh.struct [Sh.str, Sh.int IntKind.i64]) ((0 : Nat) + (1 : Nat) + (1 : Nat)) (0 : Nat) (1 : Nat) Cap.tight], Ent.tbl false (Sh.struct [Sh.str, Sh.int IntKind.i64]) (insK [] (0 : Nat) (a.getD (↑i : Int).toNat D.nul).asStr (1 : Int)), Ent.cells [AV.ptr (some ((0 : Nat) + (1 : Nat) + (1 : Nat) + (1 : Nat) + (1 : Nat), (0 : Nat)))], Ent.cells [AV.fn (Fn.func (43 : Nat)) [] [], AV.tsl true (Sh.struct [Sh.str, Sh.int IntKind.i64]) ((0 : Nat) + (1 : Nat) + (1 : Nat) + (1 : Nat) + (1 : Nat) + (1 : Nat)) (0 : Nat) (1 : Nat) Cap.tight], Ent.tbl false (Sh.struct [Sh.str, Sh.int IntKind.i64]) (insK [] (0 : Nat) (a.getD ((IntKind.i64.wrap ((↑i : Int) + u.tmod (↑a.length : Int))).tmod (↑a.length : Int)).toNat D.nul).asStr (1 : Int))])
            (False))
          (False))
        (False))
      (False))
    (kk Ex.normal ([AV.fz fn Sh.str a, AV.int IntKind.i64 u, .any, .any, .any, .any, AV.ptr (some ((0 : Nat), (0 : Nat))), AV.ptr (some ((1 : Nat), (0 : Nat))), AV.int IntKind.i64 (↑i : Int)] ++ padAny 89) [Ent.cells [AV.ptr none], Ent.cells [AV.ptr none]]) := by kernel_rfl
theorem ord_r1 (fn : Bool) (a : List D) (u : Int) (i : Nat) (l : List D) (nn : Bool) (n : Nat) (l' : List D) (nn' : Bool) (n' : Nat) (more : List AV → St → Prop) (kk : KS) : roundK Try.prog prO noL 100 4 0 (tO fn a u 3 i) (d2S l nn n l' nn' n') (againK 0 0 kO kO more kk) =
  br (decide ((↑i : Int) < (↑a.length : Int)))
    (br (decide ((0 : Int) ≤ (↑i : Int)) && decide ((↑i : Int) < (↑a.length : Int)))
      (br (hasB l (a.getD (↑i : Int).toNat D.nul).asStr)
        (br (okM (Sh.struct [Sh.str, Sh.int IntKind.i64]) (Sh.struct [Sh.str, Sh.int IntKind.i64]) l n)
          (br (!decide ((↑a.length : Int) = (0 : Int)))
            (br (!decide ((↑a.length : Int) = (0 : Int)))
              (br (decide ((0 : Int) ≤ (IntKind.i64.wrap ((↑i : Int) + u.tmod (↑a.length : Int))).tmod (↑a.length : Int)) && decide ((IntKind.i64.wrap ((↑i : Int) + u.tmod (↑a.length : Int))).tmod (↑a.length : Int) < (↑a.length : Int)))
                (br (hasB l' (a.getD ((IntKind.i64.wrap ((↑i : Int) + u.tmod (↑a.length : Int))).tmod (↑a.length : Int)).toNat D.nul).asStr)
                  (br (okM (Sh.struct [Sh.str, Sh.int IntKind.i64]) (Sh.struct [Sh.str, Sh.int IntKind.i64]) l' n')
                    (more ([AV.fz fn Sh.str a, AV.int IntKind.i64 u, .any, .any, .any, .any, AV.ptr (some ((0 : Nat), (0 : Nat))), AV.ptr (some ((0 : Nat) + (1 : Nat) + (1 : Nat) + (1 : Nat), (0 : Nat))), AV.int IntKind.i64 (IntKind.i64.wrap ((↑i : Int) + (1 : Int)))] ++ padAny 89) [Ent.cells [AV.ptr (some ((0 : Nat) + (1 : Nat), (0 : Nat)))], Ent.cells [AV.fn (Fn.func (43 : Nat)) [] [], AV.tsl nn (Sh.struct [Sh.str, Sh.int IntKind.i64]) ((0 : Nat) + (1 : Nat) + (1 : Nat)) (0 : Nat) n Cap.tight], Ent.tbl false (Sh.struct [Sh.str, Sh.int IntKind.i64]) (setK l (bs l (a.getD (↑i : Int).toNat D.nul).asStr) (IntKind.i64.wrap (getK l (a.getD (↑i : Int).toNat D.nul).asStr + (1 : Int)))), Ent.cells [AV.ptr (some ((0 : Nat) + (1 : Nat) + (1 : Nat) + (1 : Nat) + (1 : Nat), (0 : Nat)))], Ent.cells [AV.fn (Fn.func (43 : Nat)) [] [], AV.tsl nn' (Sh.struct [Sh.str, Sh.int IntKind.i64]) ((0 : Nat) + (1 : Nat) + (1 : Nat) + (1 : Nat) + (1 : Nat) + (1 : Nat)) (0 : Nat) n' Cap.tight], Ent.tbl false (Sh.struct [Sh.str, Sh.int IntKind.i64]) (setK l' (bs l' (a.getD ((IntKind.i64.wrap ((↑i : Int) + u.tmod (↑a.length : Int))).tmod (↑a.length : Int)).toNat D.nul).asStr) (IntKind.i64.wrap (getK l' (a.getD ((IntKind.i64.wrap ((↑i : Int) + u.tmod (↑a.length : Int))).tmod (↑a.length : Int)).toNat D.nul).asStr + (1 : Int))))])
                    (False))
                  (br (okM (Sh.struct [Sh.str, Sh.int IntKind.i64]) (Sh.struct [Sh.str, Sh.int IntKind.i64]) l' n')
                    (more ([AV.fz fn Sh.str a, AV.int IntKind.i64 u, .any, .any, .any, .any, AV.ptr (some ((0 : Nat), (0 : Nat))), AV.ptr (some ((0 : Nat) + (1 : Nat) + (1 : Nat) + (1 : Nat), (0 : Nat))), AV.int IntKind.i64 (IntKind.i64.wrap ((↑i : Int) + (1 : Int)))] ++ padAny 89) [Ent.cells [AV.ptr (some ((0 : Nat) + (1 : Nat), (0 : Nat)))], Ent.cells [AV.fn (Fn.func (43 : Nat)) [] [], AV.tsl nn (Sh.struct [Sh.str, Sh.int IntKind.i64]) ((0 : Nat) + (1 : Nat) + (1 : Nat)) (0 : Nat) n Cap.tight], Ent.tbl false (Sh.struct [Sh.str, Sh.int IntKind.i64]) (setK l (bs l (a.getD (↑i : Int).toNat D.nul).asStr) (IntKind.i64.wrap (getK l (a.getD (↑i : Int).toNat D.nul).asStr + (1 : Int)))), Ent.cells [AV.ptr (some ((0 : Nat) + (1 : Nat) + (1 : Nat) + (1 : Nat) + (1 : Nat), (0 : Nat)))], Ent.cells [AV.fn (Fn.func (43 : Nat)) [] [], AV.tsl true (Sh.struct [Sh.str, Sh.int IntKind.i64]) ((0 : Nat) + (1 : Nat) + (1 : Nat) + (1 : Nat) + (1 : Nat) + (1 : Nat)) (0 : Nat) (n' + (1 : Nat)) Cap.tight], Ent.tbl false (Sh.struct [Sh.str, Sh.int IntKind.i64]) (insK l' (bs l' (a.getD ((IntKind.i64.wrap ((↑i : Int) + u.tmod (↑a.length : Int))).tmod (↑a.length : Int)).toNat D.nul).asStr) (a.getD ((IntKind.i64.wrap ((↑i : Int) + u.tmod (↑a.length : Int))).tmod (↑a.length : Int)).toNat D.nul).asStr (1 : Int))])
                    (False)))
                (False))
              (False))
            (False))
          (False))
        (br (okM (Sh.struct [Sh.str, Sh.int IntKind.i64]) (Sh.struct [Sh.str, Sh.int IntKind.i64]) l n)
          (br (!decide ((↑a.length : Int) = (0 : Int)))
            (br (!decide ((↑a.length : Int) = (0 : Int)))
              (br (decide ((0 : Int) ≤ (IntKind.i64.wrap ((↑i : Int) + u.tmod (↑a.length : Int))).tmod (↑a.length : Int)) && decide ((IntKind.i64.wrap ((↑i : Int) + u.tmod (↑a.length : Int))).tmod (↑a.length : Int) < (↑a.length : Int)))
                (br (hasB l' (a.getD ((IntKind.i64.wrap ((↑i : Int) + u.tmod (↑a.length : Int))).tmod (↑a.length : Int)).toNat D.nul).asStr)
                  (br (okM (Sh.struct [Sh.str, Sh.int IntKind.i64]) (Sh.struct [Sh.str, Sh.int IntKind.i64]) l' n')
                    (more ([AV.fz fn Sh.str a, AV.int IntKind.i64 u, .any, .any, .any, .any, AV.ptr (some ((0 : Nat), (0 : Nat))), AV.ptr (some ((0 : Nat) + (1 : Nat) + (1 : Nat) + (1 : Nat), (0 : Nat))), AV.int IntKind.i64 (IntKind.i64.wrap ((↑i : Int) + (1 : Int)))] ++ padAny 89) [Ent.cells [AV.ptr (some ((0 : Nat) + (1 : Nat), (0 : Nat)))], Ent.cells [AV.fn (Fn.func (43 : Nat)) [] [], AV.tsl true (Sh.struct [Sh.str, Sh.int IntKind.i64]) ((0 : Nat) + (1 : Nat) + (1 : Nat)) (0 : Nat) (n + (1 : Nat)) Cap.tight], Ent.tbl false (Sh.struct [Sh.str, Sh.int IntKind.i64]) (insK l (bs l (a.getD (↑i : Int).toNat D.nul).asStr) (a.getD (↑i : Int).toNat D.nul).asStr (1 : Int)), Ent.cells [AV.ptr (some ((0 : Nat) + (1 : Nat) + (1 : Nat) + (1 : Nat) + (1 : Nat), (0 : Nat)))], Ent.cells [AV.fn (Fn.func (43 : Nat)) [] [], AV.tsl nn' (Sh.struct [Sh.str, Sh.int IntKind.i64]) ((0 : Nat) + (1 : Nat) + (1 : Nat) + (1 : Nat) + (1 : Nat) + (1 : Nat)) (0 : Nat) n' Cap.tight], Ent.tbl false (Sh.struct [Sh.str, Sh.int IntKind.i64]) (setK l' (bs l' (a.getD ((IntKind.i64.wrap ((↑i : Int) + u.tmod (↑a.length : Int))).tmod (↑a.length : Int)).toNat D.nul).asStr) (IntKind.i64.wrap (getK l' (a.getD ((IntKind.i64.wrap ((↑i : Int) + u.tmod (↑a.length : Int))).tmod (↑a.length : Int)).toNat D.nul).asStr + (1 : Int))))])
                    (False))
                  (br (okM (Sh.struct [Sh.str, Sh.int IntKind.i64]) (Sh.struct [Sh.str, Sh.int IntKind.i64]) l' n')
                    (more ([AV.fz fn Sh.str a, AV.int IntKind.i64 u, .any, .any, .any, .any, AV.ptr (some ((0 : Nat), (0 : Nat))), AV.ptr (some ((0 : Nat) + (1 : Nat) + (1 : Nat) + (1 : Nat), (0 : Nat))), AV.int IntKind.i64 (IntKind.i64.wrap ((↑i : Int) + (1 : Int)))] ++ padAny 89) [Ent.cells [AV.ptr (some ((0 : Nat) + (1 : Nat), (0 : Nat)))], Ent.cells [AV.fn (Fn.func (43 : Nat)) [] [], AV.tsl true (Sh.struct [Sh.str, Sh.int IntKind.i64]) ((0 : Nat) + (1 : Nat) + (1 : Nat)) (0 : Nat) (n + (1 : Nat)) Cap.tight], Ent.tbl false (Sh.struct [Sh.str, Sh.int IntKind.i64]) (insK l (bs l (a.getD (↑i : Int).toNat D.nul).asStr) (a.getD (↑i : Int).toNat D.nul).asStr (1 : Int)), Ent.cells [AV.ptr (some ((0 : Nat) + (1 : Nat) + (1 : Nat) + (1 : Nat) + (1 : Nat), (0 : Nat)))], Ent.cells [AV.fn (Fn.func (43 : Nat)) [] [], AV.tsl true (Sh.struct [Sh.str, Sh.int IntKind.i64]) ((0 : Nat) + (1 : Nat) + (1 : Nat) + (1 : Nat) + (1 : Nat) + (1 : Nat)) (0 : Nat) (n' + (1 : Nat)) Cap.tight], Ent.tbl false (Sh.struct [Sh.str, Sh.int IntKind.i64]) (insK l' (bs l' (a.getD ((IntKind.i64.wrap ((↑i : Int) + u.tmod (↑a.length : Int))).tmod (↑a.length : Int)).toNat D.nul).asStr) (a.getD ((IntKind.i64.wrap ((↑i : Int) + u.tmod (↑a.length : Int))).tmod (↑a.length : Int)).toNat D.nul).asStr (1 : Int))])
                    (False)))
                (False))
              (False))
            (False))
          (False)))
      (False))
    (kk Ex.normal ([AV.fz fn Sh.str a, AV.int IntKind.i64 u, .any, .any, .any, .any, AV.ptr (some ((0 : Nat), (0 : Nat))), AV.ptr (some ((3 : Nat), (0 : Nat))), AV.int IntKind.i64 (↑i : Int)] ++ padAny 89) [Ent.cells [AV.ptr (some ((1 : Nat), (0 : Nat)))], Ent.cells [AV.fn (Fn.func (43 : Nat)) [] [], AV.tsl nn (Sh.struct [Sh.str, Sh.int IntKind.i64]) (2 : Nat) (0 : Nat) n Cap.tight], Ent.tbl false (Sh.struct [Sh.str, Sh.int IntKind.i64]) l, Ent.cells [AV.ptr (some ((4 : Nat), (0 : Nat)))], Ent.cells [AV.fn (Fn.func (43 : Nat)) [] [], AV.tsl nn' (Sh.struct [Sh.str, Sh.int IntKind.i64]) (5 : Nat) (0 : Nat) n' Cap.tight], Ent.tbl false (Sh.struct [Sh.str, Sh.int IntKind.i64]) l']) := by kernel_rfl
def kO2 : List Keep := [.yes, .no, .no, .no, .no, .no, .yes, .yes, .no, .yes]
def tO2 (fn : Bool) (a : List D) (i : Nat) : List AV := [.fz fn .str a, .any, .any, .any, .any, .any, .ptr (some (0, 0)), .ptr (some (3, 0)), .any, .int .i64 (i : Int)] ++ padAny 88
theorem ord_s (F : LoopS) (fn : Bool) (a : List D) (i : Nat) (l : List D) (nn : Bool) (n : Nat) (l' : List D) (nn' : Bool) (n' : Nat) (more : List AV → St → Prop) (kk : KS) : roundK Try.prog prO (addL 0 F noL) 100 4 2 (tO2 fn a i) (d2S l nn n l' nn' n') (againK 0 2 kO2 kO2 more kk) =
  br (okM (Sh.struct [Sh.str, Sh.int IntKind.i64]) (Sh.struct [Sh.str, Sh.int IntKind.i64]) l n)
    (br (decide ((↑i : Int) < (↑n : Int)))
      (br (okM (Sh.struct [Sh.str, Sh.int IntKind.i64]) (Sh.struct [Sh.str, Sh.int IntKind.i64]) l n)
        (br (okM (Sh.struct [Sh.str, Sh.int IntKind.i64]) (Sh.struct [Sh.str, Sh.int IntKind.i64]) l' n')
          (br (!inL l' (↑i : Int))
            (kk Ex.ret ([AV.fz fn Sh.str a, .any, .any, .any, .any, .any, AV.ptr (some ((0 : Nat), (0 : Nat))), AV.ptr (some ((0 : Nat) + (1 : Nat) + (1 : Nat) + (1 : Nat), (0 : Nat))), .any, AV.int IntKind.i64 (↑i : Int)] ++ padAny 88) [Ent.cells [AV.ptr (some ((0 : Nat) + (1 : Nat), (0 : Nat)))], Ent.cells [AV.fn (Fn.func (43 : Nat)) [] [], AV.tsl nn (Sh.struct [Sh.str, Sh.int IntKind.i64]) ((0 : Nat) + (1 : Nat) + (1 : Nat)) (0 : Nat) n Cap.tight], Ent.tbl false (Sh.struct [Sh.str, Sh.int IntKind.i64]) l, Ent.cells [AV.ptr (some ((0 : Nat) + (1 : Nat) + (1 : Nat) + (1 : Nat) + (1 : Nat), (0 : Nat)))], Ent.cells [AV.fn (Fn.func (43 : Nat)) [] [], AV.tsl nn' (Sh.struct [Sh.str, Sh.int IntKind.i64]) ((0 : Nat) + (1 : Nat) + (1 : Nat) + (1 : Nat) + (1 : Nat) + (1 : Nat)) (0 : Nat) n' Cap.tight], Ent.tbl false (Sh.struct [Sh.str, Sh.int IntKind.i64]) l'])
            (br (!eqBytes (atK l (↑i : Int)) (atK l' (↑i : Int)))
              (kk Ex.ret ([AV.fz fn Sh.str a, .any, .any, .any, .any, .any, AV.ptr (some ((0 : Nat), (0 : Nat))), AV.ptr (some ((0 : Nat) + (1 : Nat) + (1 : Nat) + (1 : Nat), (0 : Nat))), .any, AV.int IntKind.i64 (↑i : Int)] ++ padAny 88) [Ent.cells [AV.ptr (some ((0 : Nat) + (1 : Nat), (0 : Nat)))], Ent.cells [AV.fn (Fn.func (43 : Nat)) [] [], AV.tsl nn (Sh.struct [Sh.str, Sh.int IntKind.i64]) ((0 : Nat) + (1 : Nat) + (1 : Nat)) (0 : Nat) n Cap.tight], Ent.tbl false (Sh.struct [Sh.str, Sh.int IntKind.i64]) l, Ent.cells [AV.ptr (some ((0 : Nat) + (1 : Nat) + (1 : Nat) + (1 : Nat) + (1 : Nat), (0 : Nat)))], Ent.cells [AV.fn (Fn.func (43 : Nat)) [] [], AV.tsl nn' (Sh.struct [Sh.str, Sh.int IntKind.i64]) ((0 : Nat) + (1 : Nat) + (1 : Nat) + (1 : Nat) + (1 : Nat) + (1 : Nat)) (0 : Nat) n' Cap.tight], Ent.tbl false (Sh.struct [Sh.str, Sh.int IntKind.i64]) l'])
              (br (decide ((↑i : Int) > (0 : Int)))
                (br (okM (Sh.struct [Sh.str, Sh.int IntKind.i64]) (Sh.struct [Sh.str, Sh.int IntKind.i64]) l n)
                  (br (!ltBytes (atK l (IntKind.i64.wrap ((↑i : Int) - (1 : Int)))) (atK l (↑i : Int)))
                    (kk Ex.ret ([AV.fz fn Sh.str a, .any, .any, .any, .any, .any, AV.ptr (some ((0 : Nat), (0 : Nat))), AV.ptr (some ((0 : Nat) + (1 : Nat) + (1 : Nat) + (1 : Nat), (0 : Nat))), .any, AV.int IntKind.i64 (↑i : Int)] ++ padAny 88) [Ent.cells [AV.ptr (some ((0 : Nat) + (1 : Nat), (0 : Nat)))], Ent.cells [AV.fn (Fn.func (43 : Nat)) [] [], AV.tsl nn (Sh.struct [Sh.str, Sh.int IntKind.i64]) ((0 : Nat) + (1 : Nat) + (1 : Nat)) (0 : Nat) n Cap.tight], Ent.tbl false (Sh.struct [Sh.str, Sh.int IntKind.i64]) l, Ent.cells [AV.ptr (some ((0 : Nat) + (1 : Nat) + (1 : Nat) + (1 : Nat) + (1 : Nat), (0 : Nat)))], Ent.cells [AV.fn (Fn.func (43 : Nat)) [] [], AV.tsl nn' (Sh.struct [Sh.str, Sh.int IntKind.i64]) ((0 : Nat) + (1 : Nat) + (1 : Nat) + (1 : Nat) + (1 : Nat) + (1 : Nat)) (0 : Nat) n' Cap.tight], Ent.tbl false (Sh.struct [Sh.str, Sh.int IntKind.i64]) l'])
                    (more ([AV.fz fn Sh.str a, .any, .any, .any, .any, .any, AV.ptr (some ((0 : Nat), (0 : Nat))), AV.ptr (some ((0 : Nat) + (1 : Nat) + (1 : Nat) + (1 : Nat), (0 : Nat))), .any, AV.int IntKind.i64 (IntKind.i64.wrap ((↑i : Int) + (1 : Int)))] ++ padAny 88) [Ent.cells [AV.ptr (some ((0 : Nat) + (1 : Nat), (0 : Nat)))], Ent.cells [AV.fn (Fn.func (43 : Nat)) [] [], AV.tsl nn (Sh.struct [Sh.str, Sh.int IntKind.i64]) ((0 : Nat) + (1 : Nat) + (1 : Nat)) (0 : Nat) n Cap.tight], Ent.tbl false (Sh.struct [Sh.str, Sh.int IntKind.i64]) l, Ent.cells [AV.ptr (some ((0 : Nat) + (1 : Nat) + (1 : Nat) + (1 : Nat) + (1 : Nat), (0 : Nat)))], Ent.cells [AV.fn (Fn.func (43 : Nat)) [] [], AV.tsl nn' (Sh.struct [Sh.str, Sh.int IntKind.i64]) ((0 : Nat) + (1 : Nat) + (1 : Nat) + (1 : Nat) + (1 : Nat) + (1 : Nat)) (0 : Nat) n' Cap.tight], Ent.tbl false (Sh.struct [Sh.str, Sh.int IntKind.i64]) l']))
                  (False))
                (more ([AV.fz fn Sh.str a, .any, .any, .any, .any, .any, AV.ptr (some ((0 : Nat), (0 : Nat))), AV.ptr (some ((0 : Nat) + (1 : Nat) + (1 : Nat) + (1 : Nat), (0 : Nat))), .any, AV.int IntKind.i64 (IntKind.i64.wrap ((↑i : Int) + (1 : Int)))] ++ padAny 88) [Ent.cells [AV.ptr (some ((0 : Nat) + (1 : Nat), (0 : Nat)))], Ent.cells [AV.fn (Fn.func (43 : Nat)) [] [], AV.tsl nn (Sh.struct [Sh.str, Sh.int IntKind.i64]) ((0 : Nat) + (1 : Nat) + (1 : Nat)) (0 : Nat) n Cap.tight], Ent.tbl false (Sh.struct [Sh.str, Sh.int IntKind.i64]) l, Ent.cells [AV.ptr (some ((0 : Nat) + (1 : Nat) + (1 : Nat) + (1 : Nat) + (1 : Nat), (0 : Nat)))], Ent.cells [AV.fn (Fn.func (43 : Nat)) [] [], AV.tsl nn' (Sh.struct [Sh.str, Sh.int IntKind.i64]) ((0 : Nat) + (1 : Nat) + (1 : Nat) + (1 : Nat) + (1 : Nat) + (1 : Nat)) (0 : Nat) n' Cap.tight], Ent.tbl false (Sh.struct [Sh.str, Sh.int IntKind.i64]) l']))))
          (False))
        (False))
      (kk Ex.normal ([AV.fz fn Sh.str a, .any, .any, .any, .any, .any, AV.ptr (some ((0 : Nat), (0 : Nat))), AV.ptr (some ((1 : Nat) + (1 : Nat) + (1 : Nat), (0 : Nat))), .any, AV.int IntKind.i64 (↑i : Int)] ++ padAny 88) [Ent.cells [AV.ptr (some ((0 : Nat) + (1 : Nat), (0 : Nat)))], Ent.cells [AV.fn (Fn.func (43 : Nat)) [] [], AV.tsl nn (Sh.struct [Sh.str, Sh.int IntKind.i64]) ((0 : Nat) + (1 : Nat) + (1 : Nat)) (0 : Nat) n Cap.tight], Ent.tbl false (Sh.struct [Sh.str, Sh.int IntKind.i64]) l, Ent.cells [AV.ptr (some ((2 : Nat) + (1 : Nat) + (1 : Nat), (0 : Nat)))], Ent.cells [AV.fn (Fn.func (43 : Nat)) [] [], AV.tsl nn' (Sh.struct [Sh.str, Sh.int IntKind.i64]) ((3 : Nat) + (1 : Nat) + (1 : Nat)) (0 : Nat) n' Cap.tight], Ent.tbl false (Sh.struct [Sh.str, Sh.int IntKind.i64]) l']))
    (False) := by kernel_rfl
theorem ord_body (fn : Bool) (a : List D) (u : Int) (G H : LoopS) (K : AV → St → Prop) : bodyK Try.prog prO (addL 2 (headG 0 kO2 H) (addL 0 (headG 0 kO G) noL)) 100 4 [] [.fz fn .str a, .int .i64 u] [] K  =
  br (decide ((↑a.length : Int) > (30 : Int)))
    (br (decide ((30 : Int) ≤ (↑a.length : Int)) && true)
      (br (decide ((↑(List.drop (0 : Nat) (List.take (30 : Nat) a)).length : Int) = (0 : Int)))
        (K (AV.bool true) [])
        (br (decide (u < (0 : Int)))
          (K (AV.bool true) [])
          (G (([AV.fz false Sh.str (List.drop (0 : Nat) (List.take (30 : Nat) a)), AV.int IntKind.i64 u, .any, .any, .any, .any, AV.ptr (some ((0 : Nat), (0 : Nat))), AV.ptr (some ((1 : Nat), (0 : Nat))), AV.int IntKind.i64 (0 : Int)] ++ padAny 89)) ([Ent.cells [AV.ptr none], Ent.cells [AV.ptr none]]) (contB Try.prog prO (addL 2 (headG 0 kO2 H) (addL 0 (headG 0 kO G) noL)) 100 4 [] [] 0 K))))
      (False))
    (br (decide ((↑a.length : Int) = (0 : Int)))
      (K (AV.bool true) [])
      (br (decide (u < (0 : Int)))
        (K (AV.bool true) [])
        (G (([AV.fz fn Sh.str a, AV.int IntKind.i64 u, .any, .any, .any, .any, AV.ptr (some ((0 : Nat), (0 : Nat))), AV.ptr (some ((1 : Nat), (0 : Nat))), AV.int IntKind.i64 (0 : Int)] ++ padAny 89)) ([Ent.cells [AV.ptr none], Ent.cells [AV.ptr none]]) (contB Try.prog prO (addL 2 (headG 0 kO2 H) (addL 0 (headG 0 kO G) noL)) 100 4 [] [] 0 K)))) := by kernel_rfl
theorem ord_mid (fn : Bool) (a : List D) (u : Int) (i : Nat) (l : List D) (nn : Bool) (n : Nat) (l' : List D) (nn' : Bool) (n' : Nat) (G H : LoopS) (K : AV → St → Prop) : contB Try.prog prO (addL 2 (headG 0 kO2 H) (addL 0 (headG 0 kO G) noL)) 100 4 [] [] 0 K .normal (tO fn a u 3 i) (d2S l nn n l' nn' n')  =
  H (([AV.fz fn Sh.str a, .any, .any, .any, .any, .any, AV.ptr (some ((0 : Nat), (0 : Nat))), AV.ptr (some ((3 : Nat), (0 : Nat))), .any, AV.int IntKind.i64 (0 : Int)] ++ padAny 88)) ([Ent.cells [AV.ptr (some ((1 : Nat), (0 : Nat)))], Ent.cells [AV.fn (Fn.func (43 : Nat)) [] [], AV.tsl nn (Sh.struct [Sh.str, Sh.int IntKind.i64]) (2 : Nat) (0 : Nat) n Cap.tight], Ent.tbl false (Sh.struct [Sh.str, Sh.int IntKind.i64]) l, Ent.cells [AV.ptr (some ((4 : Nat), (0 : Nat)))], Ent.cells [AV.fn (Fn.func (43 : Nat)) [] [], AV.tsl nn' (Sh.struct [Sh.str, Sh.int IntKind.i64]) (5 : Nat) (0 : Nat) n' Cap.tight], Ent.tbl false (Sh.struct [Sh.str, Sh.int IntKind.i64]) l']) (contB Try.prog prO (addL 2 (headG 0 kO2 H) (addL 0 (headG 0 kO G) noL)) 100 4 [] [] 2 K) := by kernel_rfl
theorem ord_end (fn : Bool) (a : List D) (i : Nat) (l : List D) (nn : Bool) (n : Nat) (l' : List D) (nn' : Bool) (n' : Nat) (G H : LoopS) (K : AV → St → Prop) : contB Try.prog prO (addL 2 (headG 0 kO2 H) (addL 0 (headG 0 kO G) noL)) 100 4 [] [] 2 K .normal (tO2 fn a i) (d2S l nn n l' nn' n') =
  br (okM (Sh.struct [Sh.str, Sh.int IntKind.i64]) (Sh.struct [Sh.str, Sh.int IntKind.i64]) l n)
    (br (okM (Sh.struct [Sh.str, Sh.int IntKind.i64]) (Sh.struct [Sh.str, Sh.int IntKind.i64]) l' n')
      (br (decide ((↑n : Int) = (↑n' : Int)))
        (br (okM (Sh.struct [Sh.str, Sh.int IntKind.i64]) (Sh.struct [Sh.str, Sh.int IntKind.i64]) l n)
          (br (a.length.blt (1000000 : Nat))
            (K (AV.bool (decide ((↑n : Int) = (↑(wordsD a).length : Int)))) [])
            (False))
          (False))
        (K (AV.bool false) []))
      (False))
    (False) := by kernel_rfl
def fO (a : List D) (j : Nat) : List UInt8 := (a.getD j .nul).asStr
def gO (a : List D) (r : Nat) (j : Nat) : List UInt8 := (a.getD ((j + r) % a.length) .nul).asStr
def MO (fn : Bool) (a : List D) (u : Int) (r : Nat) (m : Nat) (t : List AV) (s : St) (kk : KS) : Prop := ∃ i : Nat, m + i = a.length ∧ ((i = 0 ∧ t = tO fn a u 1 0 ∧ s = d0S) ∨ (0 < i ∧ ∃ nn nn', t = tO fn a u 3 i ∧ s = d2S (accW (fO a) i) nn (accW (fO a) i).length (accW (gO a r) i) nn' (accW (gO a r) i).length)) ∧
  ∀ nn nn', kk .normal (tO fn a u 3 a.length) (d2S (accW (fO a) a.length) nn (accW (fO a) a.length).length (accW (gO a r) a.length) nn' (accW (gO a r) a.length).length)
theorem ord_step1 (fn : Bool) (a : List D) (u : Int) (hu : 0 ≤ u) (ha : 0 < a.length) (hn : a.length ≤ 30) : ∀ m t s kk, MO fn a u (u.tmod (a.length : Int)).toNat m t s kk → roundK Try.prog prO noL 100 4 0 t s (againK 0 0 kO kO (fun t' s' => ∃ m', m' < m ∧ MO fn a u (u.tmod (a.length : Int)).toNat m' t' s' kk) kk) := by
  rintro m t s kk ⟨i, hm, ⟨rfl, rfl, rfl⟩ | ⟨hi, nn, nn', rfl, rfl⟩, hk⟩
  · rw [ord_r0]
    obtain ⟨e1, e2⟩ := turn_ix (i := 0) hu ha ha (by omega)
    have h0 : (!decide ((a.length : Int) = (0 : Int))) = true := by rw [decide_eq_false (by omega)]; rfl
    rw [e1]
    have e3 : (0 + (u.tmod (a.length : Int)).toNat) % a.length < a.length := Nat.mod_lt _ ha
    refine br_t (by (simp only [Bool.and_eq_true, decide_eq_true_eq, and_true]; omega)) (br_t (by (simp only [Bool.and_eq_true, decide_eq_true_eq, and_true]; omega)) (br_t h0 (br_t h0 (br_t (by (simp only [Bool.and_eq_true, decide_eq_true_eq, and_true]; omega)) ⟨m - 1, by omega, 1, by omega, .inr ⟨by omega, true, true, ?_, ?_⟩, hk⟩))))
    · rfl
    · rw [Int.toNat_natCast]; rfl
  · rw [ord_r1]
    refine br_iff.2 ⟨fun h1 => ?_, fun h1 => ?_⟩
    · have hia : i < a.length := by omega
      obtain ⟨e1, e2⟩ := turn_ix (i := i) hu ha hia (by omega)
      have h0 : (!decide ((a.length : Int) = (0 : Int))) = true := by rw [decide_eq_false (by omega)]; rfl
      rw [e1]
      have e3 : (i + (u.tmod (a.length : Int)).toNat) % a.length < a.length := Nat.mod_lt _ ha
      have hc : (decide ((0 : Int) ≤ (((i + (u.tmod (a.length : Int)).toNat) % a.length : Nat) : Int)) && decide ((((i + (u.tmod (a.length : Int)).toNat) % a.length : Nat) : Int) < (a.length : Int))) = true := by
        rw [Bool.and_eq_true, decide_eq_true_eq, decide_eq_true_eq]; omega
      have hl1 := accW_len (fO a) i
      have hl2 := accW_len (gO a (u.tmod (a.length : Int)).toNat) i
      rw [Int.toNat_natCast, Int.toNat_natCast]
      have again : ∀ (l : List D) (p : Bool) (n : Nat) (l' : List D) (p' : Bool) (n' : Nat), l = accW (fO a) (i + 1) → n = l.length → l' = accW (gO a (u.tmod (a.length : Int)).toNat) (i + 1) → n' = l'.length →
          ∃ m', m' < m ∧ MO fn a u (u.tmod (a.length : Int)).toNat m' ([AV.fz fn Sh.str a, AV.int IntKind.i64 u, .any, .any, .any, .any, AV.ptr (some ((0 : Nat), (0 : Nat))), AV.ptr (some ((0 : Nat) + (1 : Nat) + (1 : Nat) + (1 : Nat), (0 : Nat))), AV.int IntKind.i64 (IntKind.i64.wrap ((i : Int) + (1 : Int)))] ++ padAny 89) (d2S l p n l' p' n') kk := by
        rintro l p n l' p' n' rfl rfl rfl rfl
        refine ⟨m - 1, by omega, i + 1, by omega, .inr ⟨by omega, p, p', ?_, rfl⟩, hk⟩
        rw [wrap64 (by omega) (by omega)]
        rfl
      generalize hL : accW (fO a) i = l at *
      generalize hL' : accW (gO a (u.tmod (a.length : Int)).toNat) i = l' at *
      have s1 : accW (fO a) (i + 1) = addW l (a.getD i .nul).asStr := by rw [accW, hL]; rfl
      have s2 : accW (gO a (u.tmod (a.length : Int)).toNat) (i + 1) = addW l' (a.getD ((i + (u.tmod (a.length : Int)).toNat) % a.length) .nul).asStr := by rw [accW, hL']; rfl
      refine br_t (by (simp only [Bool.and_eq_true, decide_eq_true_eq, and_true]; omega)) (br_mk (fun h => br_t (okM_mk rfl (by omega)) (br_t h0 (br_t h0 (br_t hc (br_mk (fun h' => br_t (okM_mk rfl (by omega)) ?_) (fun h' => br_t (okM_mk rfl (by omega)) ?_)))))) (fun h => br_t (okM_mk rfl (by omega)) (br_t h0 (br_t h0 (br_t hc (br_mk (fun h' => br_t (okM_mk rfl (by omega)) ?_) (fun h' => br_t (okM_mk rfl (by omega)) ?_)))))))
      · exact again _ nn _ _ nn' _ (by rw [s1, addW_t h]) (setK_len ..).symm (by rw [s2, addW_t h']) (setK_len ..).symm
      · exact again _ nn _ _ true _ (by rw [s1, addW_t h]) (setK_len ..).symm (by rw [s2, addW_f h']) (insK_len _ _ _ (bs_le ..)).symm
      · exact again _ true _ _ nn' _ (by rw [s1, addW_f h]) (insK_len _ _ _ (bs_le ..)).symm (by rw [s2, addW_t h']) (setK_len ..).symm
      · exact again _ true _ _ true _ (by rw [s1, addW_f h]) (insK_len _ _ _ (bs_le ..)).symm (by rw [s2, addW_f h']) (insK_len _ _ _ (bs_le ..)).symm
    · have hia : i = a.length := by omega
      subst hia
      exact hk nn nn'
def MO2 (fn : Bool) (a : List D) (m : Nat) (t : List AV) (s : St) (kk : KS) : Prop := ∃ (i : Nat) (l : List D) (nn : Bool) (l' : List D) (nn' : Bool), m + i = l.length ∧ l.length < 1000000 ∧ SS (keysD l) ∧ keysD l' = keysD l ∧ t = tO2 fn a i ∧ s = d2S l nn l.length l' nn' l'.length ∧
  kk .normal (tO2 fn a l.length) (d2S l nn l.length l' nn' l'.length)
theorem ord_step2 (F : LoopS) (fn : Bool) (a : List D) : ∀ m t s kk, MO2 fn a m t s kk → roundK Try.prog prO (addL 0 F noL) 100 4 2 t s (againK 0 2 kO2 kO2 (fun t' s' => ∃ m', m' < m ∧ MO2 fn a m' t' s' kk) kk) := by
  rintro m t s kk ⟨i, l, nn, l', nn', hm, hl, hs, hk', rfl, rfl, hk⟩
  have hll : l'.length = l.length := by rw [← keysD_len, hk', keysD_len]
  rw [ord_s]
  refine br_t (okM_mk rfl hl) (br_iff.2 ⟨fun h1 => ?_, fun h1 => ?_⟩)
  · have hi : i < l.length := by omega
    obtain ⟨g1, g2⟩ := atK_get (l := l) hi
    obtain ⟨g3, g4⟩ := atK_get (l := l') (i := i) (by omega)
    refine br_t (okM_mk rfl hl) (br_t (okM_mk rfl (by omega)) (br_mk (fun h => by rw [g3] at h; cases h) (fun _ => br_mk (fun h => ?_) (fun _ => ?_))))
    · rw [g2, g4, hk', eqBytes_refl] at h; cases h
    · have again : ∃ m', m' < m ∧ MO2 fn a m' ([AV.fz fn Sh.str a, .any, .any, .any, .any, .any, AV.ptr (some ((0 : Nat), (0 : Nat))), AV.ptr (some ((0 : Nat) + (1 : Nat) + (1 : Nat) + (1 : Nat), (0 : Nat))), .any, AV.int IntKind.i64 (IntKind.i64.wrap ((i : Int) + (1 : Int)))] ++ padAny 88) (d2S l nn l.length l' nn' l'.length) kk := by
        refine ⟨m - 1, by omega, i + 1, l, nn, l', nn', by omega, hl, hs, hk', ?_, rfl, hk⟩
        rw [wrap64 (by omega) (by omega)]
        rfl
      refine br_iff.2 ⟨fun h2 => br_t (okM_mk rfl hl) (br_mk (fun h => ?_) (fun _ => again)), fun _ => again⟩
      rw [wrap64 (by omega) (by omega), show (i : Int) - 1 = ((i - 1 : Nat) : Int) by omega, (atK_get (l := l) (show i - 1 < l.length by omega)).2, g2] at h
      have := SS_get hs (show i - 1 < i by omega) (by rw [keysD_len]; exact hi)
      unfold ltB at this
      rw [this] at h
      cases h
  · have hi : i = l.length := by omega
    subst hi
    exact hk
theorem ord_comes (a : List D) (u : Int) : Sy.Comes Try.prog 4 [.fz false .str a, .int .i64 u] [] (.bool true) [] := by
  have hd : distinctOk Try.prog 4 = true := by kernel_rfl
  have triv : ¬ (0 ≤ u ∧ 0 < a.length) → Sy.Comes Try.prog 4 [.fz false .str a, .int .i64 u] [] (.bool true) [] := fun hg => by
    refine comes_of ok prO_ok (L := 100) (ms := []) hd (loops_add (id := 2) (L := 100) (kh := kO2) (kx := kO2) (ks := kO2) (M := fun _ _ _ _ => False) ok prO_ok hd (loops_add (id := 0) (L := 100) (kh := kO) (kx := kO) (ks := kO) (M := fun _ _ _ _ => False) ok prO_ok hd loops_none (fun _ _ _ _ h => h.elim)) (fun _ _ _ _ h => h.elim)) ?_
    refine Eq.mpr (ord_body false a u _ _ _) ?_
    refine br_iff.2 ⟨fun h1 => br_t (by (simp only [Bool.and_eq_true, decide_eq_true_eq, and_true]; omega)) (br_iff.2 ⟨fun _ => ⟨rfl, rfl⟩, fun _ => br_iff.2 ⟨fun _ => ⟨rfl, rfl⟩, fun h3 => absurd ⟨by omega, by omega⟩ hg⟩⟩), fun h1 => br_iff.2 ⟨fun _ => ⟨rfl, rfl⟩, fun h2 => br_iff.2 ⟨fun _ => ⟨rfl, rfl⟩, fun h3 => absurd ⟨by omega, by omega⟩ hg⟩⟩⟩
  by_cases hg : 0 ≤ u ∧ 0 < a.length
  · obtain ⟨hu, ha⟩ := hg
    have main : ∀ (b : List D) (lp : Nat → Option LoopS), 0 < b.length → b.length ≤ 30 → (∀ G H, lp = addL 2 (headG 0 kO2 H) (addL 0 (headG 0 kO G) noL) → G = byM (MO false b u (u.tmod (b.length : Int)).toNat) → H = byM (MO2 false b) →
        G (tO false b u 1 0) d0S (contB Try.prog prO lp 100 4 [] [] 0 fun v1 s1 => v1 = .bool true ∧ s1 = [])) := by
      rintro b lp hb hn G H rfl rfl rfl
      obtain ⟨e1, e2⟩ := turn_ix (i := 0) hu hb hb (by omega)
      refine ⟨b.length, 0, by omega, .inl ⟨rfl, rfl, rfl⟩, fun nn nn' => ?_⟩
      rw [ord_mid]
      have k1 : keysD (accW (fO b) b.length) = strsD (wordsD b) := acc_words b
      have k2 : keysD (accW (gO b (u.tmod (b.length : Int)).toNat) b.length) = strsD (wordsD b) := acc_turn b _ e2
      have l1 := accW_len (fO b) b.length
      have l2 := accW_len (gO b (u.tmod (b.length : Int)).toNat) b.length
      have n1 : (accW (fO b) b.length).length = (wordsD b).length := by rw [← keysD_len, k1, strsD_len]
      have n2 : (accW (gO b (u.tmod (b.length : Int)).toNat) b.length).length = (wordsD b).length := by rw [← keysD_len, k2, strsD_len]
      refine ⟨_, 0, _, nn, _, nn', rfl, by omega, by rw [k1]; exact (wordsD_law b).1, by rw [k1, k2], rfl, rfl, ?_⟩
      rw [ord_end]
      exact br_t (okM_mk rfl (by omega)) (br_t (okM_mk rfl (by omega)) (br_t (by rw [n1, n2]; simp) (br_t (okM_mk rfl (by omega)) (br_t (blt_lt.2 (by omega)) ⟨by rw [n1]; simp, rfl⟩))))
    by_cases h30 : 30 < a.length
    · have hb : (a.take 30).length = 30 := by simp; omega
      refine comes_of ok prO_ok (L := 100) (ms := []) hd (loops_add (L := 100) (kh := kO2) ok prO_ok hd (loops_add (L := 100) (kh := kO) ok prO_ok hd loops_none (ord_step1 false (a.take 30) u hu (by omega) (by omega))) (ord_step2 _ false (a.take 30))) ?_
      refine Eq.mpr (ord_body false a u _ _ _) ?_
      refine br_t (by (simp only [Bool.and_eq_true, decide_eq_true_eq, and_true]; omega)) (br_t (by (simp only [Bool.and_eq_true, decide_eq_true_eq, and_true]; omega)) (br_iff.2 ⟨fun h => ⟨rfl, rfl⟩, fun _ => br_iff.2 ⟨fun h => ⟨rfl, rfl⟩, fun _ => ?_⟩⟩))
      have := main (a.take 30) _ (by omega) (by omega) _ _ rfl rfl rfl
      rw [List.drop_zero]
      exact this
    · refine comes_of ok prO_ok (L := 100) (ms := []) hd (loops_add (L := 100) (kh := kO2) ok prO_ok hd (loops_add (L := 100) (kh := kO) ok prO_ok hd loops_none (ord_step1 false a u hu ha (by omega))) (ord_step2 _ false a)) ?_
      refine Eq.mpr (ord_body false a u _ _ _) ?_
      refine br_iff.2 ⟨fun h => by omega, fun _ => br_iff.2 ⟨fun h => ⟨rfl, rfl⟩, fun _ => br_iff.2 ⟨fun h => ⟨rfl, rfl⟩, fun _ => ?_⟩⟩⟩
      exact main a _ ha (by omega) _ _ rfl rfl rfl
  · exact triv hg
end Go.Proofs.Ytkfdfenaaidkkaa
