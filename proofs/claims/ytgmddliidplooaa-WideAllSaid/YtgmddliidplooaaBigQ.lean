/- Walks: the reference's great numbers: divided. -/
import Derived.Test.YtgmddliidplooaaBigT
set_option linter.unusedSimpArgs false
set_option linter.unusedVariables false
set_option maxRecDepth 100000
namespace Go.Proofs.Ytgmddliidplooaa.W
open Go Go.Sy
attribute [local irreducible] bodyK roundK
def prBQ : FuncId → Option Sy.Spec := addP 20 baddF (addP 23 bnegF (addP 40 bminusF (addP 41 blessF (addP 21 bofF (addP 38 bnumF noP)))))
def kQ1 : List Keep := [.no, .no, .yes, .no, .no, .no, .yes, .yes, .yes, .yes, .yes]
theorem bquo_body (a b c d e f g h n : Int) (G1 : LoopS) (k : AV → St → Prop) : bodyK Try.prog prBQ (addL 0 (headG 0 kQ1 G1) noL) 100 28 [] [av8 a b c d e f g h, .int .i64 n] [] k  =
  br (decide (n < (1 : Int)))
    (k (AV.tup [AV.int IntKind.i64 (0 : Int), AV.bool false]) [])
    (br (inB a b c d e f g h)
      (br (decide (w128 (bV a b c d e f g h) < (0 : Int)))
        (br (inB a b c d e f g h)
          (br (inI n)
            (G1 (([.any, .any, AV.ptr (some ((0 : Nat), (0 : Nat))), .any, .any, .any, AV.bool (decide (w128 (bV a b c d e f g h) < (0 : Int))), AV.ptr (some ((0 : Nat) + (1 : Nat), (0 : Nat))), AV.ptr (some ((0 : Nat) + (1 : Nat) + (1 : Nat), (0 : Nat))), AV.ptr (some ((0 : Nat) + (1 : Nat) + (1 : Nat) + (1 : Nat), (0 : Nat))), AV.int IntKind.i64 (127 : Int)] ++ padAny 50)) ([Ent.cells [AV.int IntKind.u32 (bD (0 : Nat) (-bV a b c d e f g h)), AV.int IntKind.u32 (bD (1 : Nat) (-bV a b c d e f g h)), AV.int IntKind.u32 (bD (2 : Nat) (-bV a b c d e f g h)), AV.int IntKind.u32 (bD (3 : Nat) (-bV a b c d e f g h)), AV.int IntKind.u32 (bD (4 : Nat) (-bV a b c d e f g h)), AV.int IntKind.u32 (bD (5 : Nat) (-bV a b c d e f g h)), AV.int IntKind.u32 (bD (6 : Nat) (-bV a b c d e f g h)), AV.int IntKind.u32 (bD (7 : Nat) (-bV a b c d e f g h))], Ent.cells [AV.int IntKind.u32 (0 : Int), AV.int IntKind.u32 (0 : Int), AV.int IntKind.u32 (0 : Int), AV.int IntKind.u32 (0 : Int), AV.int IntKind.u32 (0 : Int), AV.int IntKind.u32 (0 : Int), AV.int IntKind.u32 (0 : Int), AV.int IntKind.u32 (0 : Int)], Ent.cells [AV.int IntKind.u32 (0 : Int), AV.int IntKind.u32 (0 : Int), AV.int IntKind.u32 (0 : Int), AV.int IntKind.u32 (0 : Int), AV.int IntKind.u32 (0 : Int), AV.int IntKind.u32 (0 : Int), AV.int IntKind.u32 (0 : Int), AV.int IntKind.u32 (0 : Int)], Ent.cells [AV.int IntKind.u32 (bD (0 : Nat) n), AV.int IntKind.u32 (bD (1 : Nat) n), AV.int IntKind.u32 (bD (2 : Nat) n), AV.int IntKind.u32 (bD (3 : Nat) n), AV.int IntKind.u32 (bD (4 : Nat) n), AV.int IntKind.u32 (bD (5 : Nat) n), AV.int IntKind.u32 (bD (6 : Nat) n), AV.int IntKind.u32 (bD (7 : Nat) n)]]) (contB Try.prog prBQ (addL 0 (headG 0 kQ1 G1) noL) 100 28 [] [] 0 k))
            (False))
          (False))
        (br (inI n)
          (G1 (([.any, .any, AV.ptr (some ((0 : Nat), (0 : Nat))), .any, .any, .any, AV.bool (decide (w128 (bV a b c d e f g h) < (0 : Int))), AV.ptr (some ((0 : Nat) + (1 : Nat), (0 : Nat))), AV.ptr (some ((0 : Nat) + (1 : Nat) + (1 : Nat), (0 : Nat))), AV.ptr (some ((0 : Nat) + (1 : Nat) + (1 : Nat) + (1 : Nat), (0 : Nat))), AV.int IntKind.i64 (127 : Int)] ++ padAny 50)) ([Ent.cells [AV.int IntKind.u32 a, AV.int IntKind.u32 b, AV.int IntKind.u32 c, AV.int IntKind.u32 d, AV.int IntKind.u32 e, AV.int IntKind.u32 f, AV.int IntKind.u32 g, AV.int IntKind.u32 h], Ent.cells [AV.int IntKind.u32 (0 : Int), AV.int IntKind.u32 (0 : Int), AV.int IntKind.u32 (0 : Int), AV.int IntKind.u32 (0 : Int), AV.int IntKind.u32 (0 : Int), AV.int IntKind.u32 (0 : Int), AV.int IntKind.u32 (0 : Int), AV.int IntKind.u32 (0 : Int)], Ent.cells [AV.int IntKind.u32 (0 : Int), AV.int IntKind.u32 (0 : Int), AV.int IntKind.u32 (0 : Int), AV.int IntKind.u32 (0 : Int), AV.int IntKind.u32 (0 : Int), AV.int IntKind.u32 (0 : Int), AV.int IntKind.u32 (0 : Int), AV.int IntKind.u32 (0 : Int)], Ent.cells [AV.int IntKind.u32 (bD (0 : Nat) n), AV.int IntKind.u32 (bD (1 : Nat) n), AV.int IntKind.u32 (bD (2 : Nat) n), AV.int IntKind.u32 (bD (3 : Nat) n), AV.int IntKind.u32 (bD (4 : Nat) n), AV.int IntKind.u32 (bD (5 : Nat) n), AV.int IntKind.u32 (bD (6 : Nat) n), AV.int IntKind.u32 (bD (7 : Nat) n)]]) (contB Try.prog prBQ (addL 0 (headG 0 kQ1 G1) noL) 100 28 [] [] 0 k))
          (False)))
      (False)) := by kernel_rfl
def tQ1 (mi : Bool) (i : Int) : List AV := [.any, .any, .ptr (some (0, 0)), .any, .any, .any, .bool mi, .ptr (some (1, 0)), .ptr (some (2, 0)), .ptr (some (3, 0)), .int .i64 i] ++ padAny 50
/-- Behind the bit: what is left is held against the divisor. -/
def tlQ (m q d : Int) (i : Nat) (mi : Bool) (more : List AV → St → Prop) (R : Int) : Prop :=
  br (inBn R && inBn d) (br (!decide (w128 (nrm R) < w128 (nrm d))) (br (inBn d) (br (inBn R && inBn (-nrm d)) (br (inBn (nrm q + nrm q) && true)
    (more (tQ1 mi ((i : Int) - 1)) [cB m, cB (nrm (nrm q + nrm q) + 1), cB (nrm R + nrm (-nrm d)), cB d]) False) False) False) (more (tQ1 mi ((i : Int) - 1)) [cB m, cB (nrm q + nrm q), cB R, cB d])) False
def bqR (i : Nat) : Prop := ∀ (m q r d : Int) (mi : Bool) (more : List AV → St → Prop) (kk : KS), roundK Try.prog prBQ noL 100 28 0 (tQ1 mi (i : Int)) [cB m, cB q, cB r, cB d] (againK 0 0 kQ1 kQ1 more kk) =
  br (inBn r && inBn r) (br (inBn q && inBn q) (br (decide (IntKind.u32.wrap (((BitVec.ofInt 32 ((bD (i / 16) m).fdiv (2 ^ (i % 16))) &&& BitVec.ofInt 32 (1 : Int)).toNat : Nat) : Int) = 1))
    (br (inBn (nrm r + nrm r) && true) (tlQ m q d i mi more (nrm (nrm r + nrm r) + 1)) False) (tlQ m q d i mi more (nrm r + nrm r))) False) False
theorem bq0 : bqR 0 := fun _ _ _ _ _ _ _ => by kernel_rfl
theorem bq1 : bqR 1 := fun _ _ _ _ _ _ _ => by kernel_rfl
theorem bq2 : bqR 2 := fun _ _ _ _ _ _ _ => by kernel_rfl
theorem bq3 : bqR 3 := fun _ _ _ _ _ _ _ => by kernel_rfl
theorem bq4 : bqR 4 := fun _ _ _ _ _ _ _ => by kernel_rfl
theorem bq5 : bqR 5 := fun _ _ _ _ _ _ _ => by kernel_rfl
theorem bq6 : bqR 6 := fun _ _ _ _ _ _ _ => by kernel_rfl
theorem bq7 : bqR 7 := fun _ _ _ _ _ _ _ => by kernel_rfl
theorem bq8 : bqR 8 := fun _ _ _ _ _ _ _ => by kernel_rfl
theorem bq9 : bqR 9 := fun _ _ _ _ _ _ _ => by kernel_rfl
theorem bq10 : bqR 10 := fun _ _ _ _ _ _ _ => by kernel_rfl
theorem bq11 : bqR 11 := fun _ _ _ _ _ _ _ => by kernel_rfl
theorem bq12 : bqR 12 := fun _ _ _ _ _ _ _ => by kernel_rfl
theorem bq13 : bqR 13 := fun _ _ _ _ _ _ _ => by kernel_rfl
theorem bq14 : bqR 14 := fun _ _ _ _ _ _ _ => by kernel_rfl
theorem bq15 : bqR 15 := fun _ _ _ _ _ _ _ => by kernel_rfl
theorem bq16 : bqR 16 := fun _ _ _ _ _ _ _ => by kernel_rfl
theorem bq17 : bqR 17 := fun _ _ _ _ _ _ _ => by kernel_rfl
theorem bq18 : bqR 18 := fun _ _ _ _ _ _ _ => by kernel_rfl
theorem bq19 : bqR 19 := fun _ _ _ _ _ _ _ => by kernel_rfl
theorem bq20 : bqR 20 := fun _ _ _ _ _ _ _ => by kernel_rfl
theorem bq21 : bqR 21 := fun _ _ _ _ _ _ _ => by kernel_rfl
theorem bq22 : bqR 22 := fun _ _ _ _ _ _ _ => by kernel_rfl
theorem bq23 : bqR 23 := fun _ _ _ _ _ _ _ => by kernel_rfl
theorem bq24 : bqR 24 := fun _ _ _ _ _ _ _ => by kernel_rfl
theorem bq25 : bqR 25 := fun _ _ _ _ _ _ _ => by kernel_rfl
theorem bq26 : bqR 26 := fun _ _ _ _ _ _ _ => by kernel_rfl
theorem bq27 : bqR 27 := fun _ _ _ _ _ _ _ => by kernel_rfl
theorem bq28 : bqR 28 := fun _ _ _ _ _ _ _ => by kernel_rfl
theorem bq29 : bqR 29 := fun _ _ _ _ _ _ _ => by kernel_rfl
theorem bq30 : bqR 30 := fun _ _ _ _ _ _ _ => by kernel_rfl
theorem bq31 : bqR 31 := fun _ _ _ _ _ _ _ => by kernel_rfl
theorem bq32 : bqR 32 := fun _ _ _ _ _ _ _ => by kernel_rfl
theorem bq33 : bqR 33 := fun _ _ _ _ _ _ _ => by kernel_rfl
theorem bq34 : bqR 34 := fun _ _ _ _ _ _ _ => by kernel_rfl
theorem bq35 : bqR 35 := fun _ _ _ _ _ _ _ => by kernel_rfl
theorem bq36 : bqR 36 := fun _ _ _ _ _ _ _ => by kernel_rfl
theorem bq37 : bqR 37 := fun _ _ _ _ _ _ _ => by kernel_rfl
theorem bq38 : bqR 38 := fun _ _ _ _ _ _ _ => by kernel_rfl
theorem bq39 : bqR 39 := fun _ _ _ _ _ _ _ => by kernel_rfl
theorem bq40 : bqR 40 := fun _ _ _ _ _ _ _ => by kernel_rfl
theorem bq41 : bqR 41 := fun _ _ _ _ _ _ _ => by kernel_rfl
theorem bq42 : bqR 42 := fun _ _ _ _ _ _ _ => by kernel_rfl
theorem bq43 : bqR 43 := fun _ _ _ _ _ _ _ => by kernel_rfl
theorem bq44 : bqR 44 := fun _ _ _ _ _ _ _ => by kernel_rfl
theorem bq45 : bqR 45 := fun _ _ _ _ _ _ _ => by kernel_rfl
theorem bq46 : bqR 46 := fun _ _ _ _ _ _ _ => by kernel_rfl
theorem bq47 : bqR 47 := fun _ _ _ _ _ _ _ => by kernel_rfl
theorem bq48 : bqR 48 := fun _ _ _ _ _ _ _ => by kernel_rfl
theorem bq49 : bqR 49 := fun _ _ _ _ _ _ _ => by kernel_rfl
theorem bq50 : bqR 50 := fun _ _ _ _ _ _ _ => by kernel_rfl
theorem bq51 : bqR 51 := fun _ _ _ _ _ _ _ => by kernel_rfl
theorem bq52 : bqR 52 := fun _ _ _ _ _ _ _ => by kernel_rfl
theorem bq53 : bqR 53 := fun _ _ _ _ _ _ _ => by kernel_rfl
theorem bq54 : bqR 54 := fun _ _ _ _ _ _ _ => by kernel_rfl
theorem bq55 : bqR 55 := fun _ _ _ _ _ _ _ => by kernel_rfl
theorem bq56 : bqR 56 := fun _ _ _ _ _ _ _ => by kernel_rfl
theorem bq57 : bqR 57 := fun _ _ _ _ _ _ _ => by kernel_rfl
theorem bq58 : bqR 58 := fun _ _ _ _ _ _ _ => by kernel_rfl
theorem bq59 : bqR 59 := fun _ _ _ _ _ _ _ => by kernel_rfl
theorem bq60 : bqR 60 := fun _ _ _ _ _ _ _ => by kernel_rfl
theorem bq61 : bqR 61 := fun _ _ _ _ _ _ _ => by kernel_rfl
theorem bq62 : bqR 62 := fun _ _ _ _ _ _ _ => by kernel_rfl
theorem bq63 : bqR 63 := fun _ _ _ _ _ _ _ => by kernel_rfl
theorem bq64 : bqR 64 := fun _ _ _ _ _ _ _ => by kernel_rfl
theorem bq65 : bqR 65 := fun _ _ _ _ _ _ _ => by kernel_rfl
theorem bq66 : bqR 66 := fun _ _ _ _ _ _ _ => by kernel_rfl
theorem bq67 : bqR 67 := fun _ _ _ _ _ _ _ => by kernel_rfl
theorem bq68 : bqR 68 := fun _ _ _ _ _ _ _ => by kernel_rfl
theorem bq69 : bqR 69 := fun _ _ _ _ _ _ _ => by kernel_rfl
theorem bq70 : bqR 70 := fun _ _ _ _ _ _ _ => by kernel_rfl
theorem bq71 : bqR 71 := fun _ _ _ _ _ _ _ => by kernel_rfl
theorem bq72 : bqR 72 := fun _ _ _ _ _ _ _ => by kernel_rfl
theorem bq73 : bqR 73 := fun _ _ _ _ _ _ _ => by kernel_rfl
theorem bq74 : bqR 74 := fun _ _ _ _ _ _ _ => by kernel_rfl
theorem bq75 : bqR 75 := fun _ _ _ _ _ _ _ => by kernel_rfl
theorem bq76 : bqR 76 := fun _ _ _ _ _ _ _ => by kernel_rfl
theorem bq77 : bqR 77 := fun _ _ _ _ _ _ _ => by kernel_rfl
theorem bq78 : bqR 78 := fun _ _ _ _ _ _ _ => by kernel_rfl
theorem bq79 : bqR 79 := fun _ _ _ _ _ _ _ => by kernel_rfl
theorem bq80 : bqR 80 := fun _ _ _ _ _ _ _ => by kernel_rfl
theorem bq81 : bqR 81 := fun _ _ _ _ _ _ _ => by kernel_rfl
theorem bq82 : bqR 82 := fun _ _ _ _ _ _ _ => by kernel_rfl
theorem bq83 : bqR 83 := fun _ _ _ _ _ _ _ => by kernel_rfl
theorem bq84 : bqR 84 := fun _ _ _ _ _ _ _ => by kernel_rfl
theorem bq85 : bqR 85 := fun _ _ _ _ _ _ _ => by kernel_rfl
theorem bq86 : bqR 86 := fun _ _ _ _ _ _ _ => by kernel_rfl
theorem bq87 : bqR 87 := fun _ _ _ _ _ _ _ => by kernel_rfl
theorem bq88 : bqR 88 := fun _ _ _ _ _ _ _ => by kernel_rfl
theorem bq89 : bqR 89 := fun _ _ _ _ _ _ _ => by kernel_rfl
theorem bq90 : bqR 90 := fun _ _ _ _ _ _ _ => by kernel_rfl
theorem bq91 : bqR 91 := fun _ _ _ _ _ _ _ => by kernel_rfl
theorem bq92 : bqR 92 := fun _ _ _ _ _ _ _ => by kernel_rfl
theorem bq93 : bqR 93 := fun _ _ _ _ _ _ _ => by kernel_rfl
theorem bq94 : bqR 94 := fun _ _ _ _ _ _ _ => by kernel_rfl
theorem bq95 : bqR 95 := fun _ _ _ _ _ _ _ => by kernel_rfl
theorem bq96 : bqR 96 := fun _ _ _ _ _ _ _ => by kernel_rfl
theorem bq97 : bqR 97 := fun _ _ _ _ _ _ _ => by kernel_rfl
theorem bq98 : bqR 98 := fun _ _ _ _ _ _ _ => by kernel_rfl
theorem bq99 : bqR 99 := fun _ _ _ _ _ _ _ => by kernel_rfl
theorem bq100 : bqR 100 := fun _ _ _ _ _ _ _ => by kernel_rfl
theorem bq101 : bqR 101 := fun _ _ _ _ _ _ _ => by kernel_rfl
theorem bq102 : bqR 102 := fun _ _ _ _ _ _ _ => by kernel_rfl
theorem bq103 : bqR 103 := fun _ _ _ _ _ _ _ => by kernel_rfl
theorem bq104 : bqR 104 := fun _ _ _ _ _ _ _ => by kernel_rfl
theorem bq105 : bqR 105 := fun _ _ _ _ _ _ _ => by kernel_rfl
theorem bq106 : bqR 106 := fun _ _ _ _ _ _ _ => by kernel_rfl
theorem bq107 : bqR 107 := fun _ _ _ _ _ _ _ => by kernel_rfl
theorem bq108 : bqR 108 := fun _ _ _ _ _ _ _ => by kernel_rfl
theorem bq109 : bqR 109 := fun _ _ _ _ _ _ _ => by kernel_rfl
theorem bq110 : bqR 110 := fun _ _ _ _ _ _ _ => by kernel_rfl
theorem bq111 : bqR 111 := fun _ _ _ _ _ _ _ => by kernel_rfl
theorem bq112 : bqR 112 := fun _ _ _ _ _ _ _ => by kernel_rfl
theorem bq113 : bqR 113 := fun _ _ _ _ _ _ _ => by kernel_rfl
theorem bq114 : bqR 114 := fun _ _ _ _ _ _ _ => by kernel_rfl
theorem bq115 : bqR 115 := fun _ _ _ _ _ _ _ => by kernel_rfl
theorem bq116 : bqR 116 := fun _ _ _ _ _ _ _ => by kernel_rfl
theorem bq117 : bqR 117 := fun _ _ _ _ _ _ _ => by kernel_rfl
theorem bq118 : bqR 118 := fun _ _ _ _ _ _ _ => by kernel_rfl
theorem bq119 : bqR 119 := fun _ _ _ _ _ _ _ => by kernel_rfl
theorem bq120 : bqR 120 := fun _ _ _ _ _ _ _ => by kernel_rfl
theorem bq121 : bqR 121 := fun _ _ _ _ _ _ _ => by kernel_rfl
theorem bq122 : bqR 122 := fun _ _ _ _ _ _ _ => by kernel_rfl
theorem bq123 : bqR 123 := fun _ _ _ _ _ _ _ => by kernel_rfl
theorem bq124 : bqR 124 := fun _ _ _ _ _ _ _ => by kernel_rfl
theorem bq125 : bqR 125 := fun _ _ _ _ _ _ _ => by kernel_rfl
theorem bq126 : bqR 126 := fun _ _ _ _ _ _ _ => by kernel_rfl
theorem bq127 : bqR 127 := fun _ _ _ _ _ _ _ => by kernel_rfl
theorem bq_all : ∀ i : Nat, i < 128 → bqR i
  | 0, _ => bq0
  | 1, _ => bq1
  | 2, _ => bq2
  | 3, _ => bq3
  | 4, _ => bq4
  | 5, _ => bq5
  | 6, _ => bq6
  | 7, _ => bq7
  | 8, _ => bq8
  | 9, _ => bq9
  | 10, _ => bq10
  | 11, _ => bq11
  | 12, _ => bq12
  | 13, _ => bq13
  | 14, _ => bq14
  | 15, _ => bq15
  | 16, _ => bq16
  | 17, _ => bq17
  | 18, _ => bq18
  | 19, _ => bq19
  | 20, _ => bq20
  | 21, _ => bq21
  | 22, _ => bq22
  | 23, _ => bq23
  | 24, _ => bq24
  | 25, _ => bq25
  | 26, _ => bq26
  | 27, _ => bq27
  | 28, _ => bq28
  | 29, _ => bq29
  | 30, _ => bq30
  | 31, _ => bq31
  | 32, _ => bq32
  | 33, _ => bq33
  | 34, _ => bq34
  | 35, _ => bq35
  | 36, _ => bq36
  | 37, _ => bq37
  | 38, _ => bq38
  | 39, _ => bq39
  | 40, _ => bq40
  | 41, _ => bq41
  | 42, _ => bq42
  | 43, _ => bq43
  | 44, _ => bq44
  | 45, _ => bq45
  | 46, _ => bq46
  | 47, _ => bq47
  | 48, _ => bq48
  | 49, _ => bq49
  | 50, _ => bq50
  | 51, _ => bq51
  | 52, _ => bq52
  | 53, _ => bq53
  | 54, _ => bq54
  | 55, _ => bq55
  | 56, _ => bq56
  | 57, _ => bq57
  | 58, _ => bq58
  | 59, _ => bq59
  | 60, _ => bq60
  | 61, _ => bq61
  | 62, _ => bq62
  | 63, _ => bq63
  | 64, _ => bq64
  | 65, _ => bq65
  | 66, _ => bq66
  | 67, _ => bq67
  | 68, _ => bq68
  | 69, _ => bq69
  | 70, _ => bq70
  | 71, _ => bq71
  | 72, _ => bq72
  | 73, _ => bq73
  | 74, _ => bq74
  | 75, _ => bq75
  | 76, _ => bq76
  | 77, _ => bq77
  | 78, _ => bq78
  | 79, _ => bq79
  | 80, _ => bq80
  | 81, _ => bq81
  | 82, _ => bq82
  | 83, _ => bq83
  | 84, _ => bq84
  | 85, _ => bq85
  | 86, _ => bq86
  | 87, _ => bq87
  | 88, _ => bq88
  | 89, _ => bq89
  | 90, _ => bq90
  | 91, _ => bq91
  | 92, _ => bq92
  | 93, _ => bq93
  | 94, _ => bq94
  | 95, _ => bq95
  | 96, _ => bq96
  | 97, _ => bq97
  | 98, _ => bq98
  | 99, _ => bq99
  | 100, _ => bq100
  | 101, _ => bq101
  | 102, _ => bq102
  | 103, _ => bq103
  | 104, _ => bq104
  | 105, _ => bq105
  | 106, _ => bq106
  | 107, _ => bq107
  | 108, _ => bq108
  | 109, _ => bq109
  | 110, _ => bq110
  | 111, _ => bq111
  | 112, _ => bq112
  | 113, _ => bq113
  | 114, _ => bq114
  | 115, _ => bq115
  | 116, _ => bq116
  | 117, _ => bq117
  | 118, _ => bq118
  | 119, _ => bq119
  | 120, _ => bq120
  | 121, _ => bq121
  | 122, _ => bq122
  | 123, _ => bq123
  | 124, _ => bq124
  | 125, _ => bq125
  | 126, _ => bq126
  | 127, _ => bq127
  | n + 128, h => absurd h (by omega)
theorem bquo_rN (m q r d : Int) (mi : Bool) (more : List AV → St → Prop) (kk : KS) : roundK Try.prog prBQ noL 100 28 0 (tQ1 mi (-1)) [cB m, cB q, cB r, cB d] (againK 0 0 kQ1 kQ1 more kk) =
  kk Ex.normal ([.any, .any, AV.ptr (some ((0 : Nat), (0 : Nat))), .any, .any, .any, AV.bool mi, AV.ptr (some ((1 : Nat), (0 : Nat))), AV.ptr (some ((2 : Nat), (0 : Nat))), AV.ptr (some ((3 : Nat), (0 : Nat))), AV.int IntKind.i64 (-1 : Int)] ++ padAny 50) [Ent.cells [AV.int IntKind.u32 (bD (0 : Nat) m), AV.int IntKind.u32 (bD (1 : Nat) m), AV.int IntKind.u32 (bD (2 : Nat) m), AV.int IntKind.u32 (bD (3 : Nat) m), AV.int IntKind.u32 (bD (4 : Nat) m), AV.int IntKind.u32 (bD (5 : Nat) m), AV.int IntKind.u32 (bD (6 : Nat) m), AV.int IntKind.u32 (bD (7 : Nat) m)], Ent.cells [AV.int IntKind.u32 (bD (0 : Nat) q), AV.int IntKind.u32 (bD (1 : Nat) q), AV.int IntKind.u32 (bD (2 : Nat) q), AV.int IntKind.u32 (bD (3 : Nat) q), AV.int IntKind.u32 (bD (4 : Nat) q), AV.int IntKind.u32 (bD (5 : Nat) q), AV.int IntKind.u32 (bD (6 : Nat) q), AV.int IntKind.u32 (bD (7 : Nat) q)], Ent.cells [AV.int IntKind.u32 (bD (0 : Nat) r), AV.int IntKind.u32 (bD (1 : Nat) r), AV.int IntKind.u32 (bD (2 : Nat) r), AV.int IntKind.u32 (bD (3 : Nat) r), AV.int IntKind.u32 (bD (4 : Nat) r), AV.int IntKind.u32 (bD (5 : Nat) r), AV.int IntKind.u32 (bD (6 : Nat) r), AV.int IntKind.u32 (bD (7 : Nat) r)], Ent.cells [AV.int IntKind.u32 (bD (0 : Nat) d), AV.int IntKind.u32 (bD (1 : Nat) d), AV.int IntKind.u32 (bD (2 : Nat) d), AV.int IntKind.u32 (bD (3 : Nat) d), AV.int IntKind.u32 (bD (4 : Nat) d), AV.int IntKind.u32 (bD (5 : Nat) d), AV.int IntKind.u32 (bD (6 : Nat) d), AV.int IntKind.u32 (bD (7 : Nat) d)]] := by kernel_rfl
theorem bquo_e1 (m q r d i : Int) (mi : Bool) (F : LoopS) (k : AV → St → Prop) : contB Try.prog prBQ (addL 0 F noL) 100 28 [] [] 0 k .normal (tQ1 mi i) [cB m, cB q, cB r, cB d] =
  br (mi)
    (br (inBn q)
      (br (inBn (-nrm q))
        (k (AV.tup [AV.int IntKind.i64 (numOf (w128 (nrm (-nrm q)))), AV.bool (inI (w128 (nrm (-nrm q))))]) [])
        (False))
      (False))
    (br (inBn q)
      (k (AV.tup [AV.int IntKind.i64 (numOf (w128 (nrm q))), AV.bool (inI (w128 (nrm q)))]) [])
      (False)) := by kernel_rfl
def MQ (m n : Int) (mi : Bool) (z : Nat) (t : List AV) (s : St) (k : KS) : Prop := ∃ q r A B : Int, z ≤ 128 ∧ B + n * A = m / 2 ^ z ∧ 0 ≤ B ∧ B < n ∧ 0 ≤ A ∧ q % M128 = A % M128 ∧ r % M128 = B % M128 ∧ t = tQ1 mi ((z : Int) - 1) ∧ s = [cB m, cB q, cB r, cB n] ∧
  ∀ q r : Int, q % M128 = (m / n) % M128 → k .normal (tQ1 mi (-1)) [cB m, cB q, cB r, cB n]
theorem bquo_step (m n : Int) (mi : Bool) (hm : 0 ≤ m) (hm' : m < M128) (hn : 1 ≤ n) (hn' : n ≤ 9223372036854775807) : ∀ z t s k, MQ m n mi z t s k → roundK Try.prog prBQ noL 100 28 0 t s (againK 0 0 kQ1 kQ1 (fun t' s' => ∃ z', z' < z ∧ MQ m n mi z' t' s' k) k) := by
  rintro z t s k ⟨q, r, A, B, hz, hP, hB0, hB1, hA, hq, hr, rfl, rfl, hk⟩
  cases z with
  | zero =>
    have eW : ((0 : Nat) : Int) - 1 = -1 := rfl
    rw [eW, bquo_rN]
    have e2 : m / n = A := ((Int.ediv_emod_unique (by omega)).2 ⟨by rw [hP]; show m / 1 = m; omega, hB0, hB1⟩).1
    exact hk q r (by rw [hq, e2])
  | succ w =>
    have eW : ((w + 1 : Nat) : Int) - 1 = (w : Int) := by omega
    rw [eW, bq_all w (by omega), bit128 m w]
    have hx2 := half_pow m w
    have hPm : m / 2 ^ (w + 1) ≤ m := Int.ediv_le_self _ hm
    have hA2 : A ≤ n * A := by
      have : 0 ≤ (n - 1) * A := Int.mul_nonneg (by omega) hA
      rw [Int.sub_mul, Int.one_mul] at this
      omega
    have n2 : n * (2 * A) = 2 * (n * A) := Int.mul_left_comm _ _ _
    have n3 : n * (2 * A + 1) = 2 * (n * A) + n := by rw [Int.mul_add, n2, Int.mul_one]
    generalize hT : n * A = T at *
    obtain ⟨X, hX⟩ : ∃ X, m / 2 ^ w = X := ⟨_, rfl⟩
    rw [hx2, hX] at hP hPm
    rw [hX]
    have hrB : nrm r = B := by
      rw [nrm_eq, hr]; simp only [M128] at hm' ⊢; omega
    have hqA : nrm q = A := by
      rw [nrm_eq, hq]; simp only [M128] at hm' ⊢; omega
    have hnn : nrm n = n := by rw [nrm_eq]; simp only [M128]; omega
    have hneg : nrm (-n) = M128 - n := by rw [nrm_eq]; simp only [M128]; omega
    have hwn : w128 n = n := by simp only [w128]; omega
    have tail : ∀ R bt : Int, (R = 2 * B + bt ∧ bt = X % 2) → tlQ m q n w mi (fun t' s' => ∃ z', z' < w + 1 ∧ MQ m n mi z' t' s' k) R := by
      rintro R bt ⟨hR, hbt⟩
      have hRn : nrm R = R := by rw [nrm_eq]; simp only [M128]; omega
      have hwR : w128 R = R := by simp only [w128]; omega
      unfold tlQ
      rw [hnn, hRn, hqA, hneg, hwn, hwR]
      refine br_t (by rw [inBn_t, inBn_t]; rfl) (br_mk (fun h => ?_) (fun h => ?_))
      · have h : ¬ R < n := by simpa using h
        refine br_t (inBn_t _) (br_t (by rw [inBn_t, inBn_t]; rfl) (br_t (by rw [inBn_t]; rfl) ?_))
        refine ⟨w, by omega, nrm (A + A) + 1, R + (M128 - n), 2 * A + 1, R - n, by omega, by rw [n3, hX]; omega, by omega, by omega, by omega, ?_, ?_, rfl, rfl, hk⟩
        · rw [nrm_eq]; simp only [M128]; omega
        · simp only [M128]; omega
      · have h : R < n := by simpa using h
        refine ⟨w, by omega, A + A, R, 2 * A, R, by omega, by rw [n2, hX]; omega, by omega, h, by omega, ?_, rfl, rfl, rfl, hk⟩
        simp only [M128]; omega
    rw [hrB]
    have hBB : nrm (B + B) = B + B := by rw [nrm_eq]; simp only [M128]; omega
    refine br_t (by rw [inBn_t]; rfl) (br_t (by rw [inBn_t]; rfl) (br_iff.2 ⟨fun hb => br_t (by rw [inBn_t]; rfl) ?_, fun hb => ?_⟩))
    · rw [hBB]
      exact tail (B + B + 1) 1 ⟨by omega, by omega⟩
    · exact tail (B + B) 0 ⟨by omega, by omega⟩
theorem bquo_ok : SpecOk Try.prog 28 bquoF.f := specOk_comes fun args s v s' tch eR => by
  simp only [bquoF] at eR
  split at eR
  · rename_i a b c d e f g h n
    obtain ⟨hg, rfl, rfl, rfl⟩ := run_ok eR
    simp only [Bool.and_eq_true] at hg
    obtain ⟨hB, hI⟩ := hg
    have hn := inI_iff.1 hI
    have hV := bV_range hB
    have hd : distinctOk Try.prog 28 = true := by kernel_rfl
    have hpr : PrOk Try.prog prBQ := prOk_add badd_ok (prOk_add bneg_ok (prOk_add bminus_ok (prOk_add bless_ok (prOk_add bof_ok (prOk_add bnum_ok prOk_none)))))
    by_cases h1 : n < 1
    · refine comes_of ok hpr (L := 100) (ms := []) hd (loops_add (L := 100) (kh := kQ1) ok hpr hd loops_none (bquo_step 0 1 false (by omega) (by decide) (by omega) (by omega))) ?_
      refine Eq.mpr (bquo_body a b c d e f g h n _ _) ?_
      exact br_t (decide_eq_true h1) ⟨by rw [quoW, quoB, if_pos h1, if_pos h1], rfl⟩
    have hB' := hB
    by_cases hs : w128 (bV a b c d e f g h) < 0
    · have em : ∃ m : Int, m = M128 - bV a b c d e f g h := ⟨_, rfl⟩
      obtain ⟨m, em⟩ := em
      have hm : 0 ≤ m ∧ m < M128 ∧ w128 (bV a b c d e f g h) = -m ∧ m ≤ 170141183460469231731687303715884105728 := by
        simp only [w128, M128] at *; omega
      refine comes_of ok hpr (L := 100) (ms := []) hd (loops_add (L := 100) (kh := kQ1) ok hpr hd loops_none (bquo_step m n true hm.1 hm.2.1 (by omega) hn.2)) ?_
      refine Eq.mpr (bquo_body a b c d e f g h n _ _) ?_
      refine br_iff.2 ⟨fun h => absurd h h1, fun _ => br_t hB (br_t (decide_eq_true hs) (br_t hB (br_t hI ?_)))⟩
      refine ⟨128, 0, 0, 0, 0, by omega, ?_, by omega, by omega, by omega, rfl, rfl, by rw [decide_eq_true hs]; rfl, ?_, fun q r hq => ?_⟩
      · rw [Int.mul_zero]
        have : m / 2 ^ 128 = 0 := Int.ediv_eq_zero_of_lt hm.1 hm.2.1
        omega
      · have : cB m = cB (-(bV a b c d e f g h)) := cB_congr (by rw [em]; simp only [M128]; omega)
        rw [this]; rfl
      · rw [bquo_e1]
        refine br_t rfl (br_t (inBn_t _) (br_t (inBn_t _) ⟨?_, rfl⟩))
        have hdm : 0 ≤ m / n ∧ m / n ≤ m := ⟨Int.ediv_nonneg hm.1 (by omega), Int.ediv_le_self _ hm.1⟩
        have e1 : w128 (nrm (-nrm q)) = quoT (w128 (bV a b c d e f g h)) n := by
          rw [quoT, if_pos hs, hm.2.2.1, Int.neg_neg]
          generalize m / n = Q at *
          simp only [nrm_eq, w128, M128] at *
          omega
        rw [e1, quoW, quoB, if_neg h1, if_neg h1]
    · have em : ∃ m : Int, m = bV a b c d e f g h := ⟨_, rfl⟩
      obtain ⟨m, em⟩ := em
      have hm : 0 ≤ m ∧ m < M128 ∧ w128 (bV a b c d e f g h) = m ∧ m < 170141183460469231731687303715884105728 := by
        simp only [w128, M128] at *; omega
      refine comes_of ok hpr (L := 100) (ms := []) hd (loops_add (L := 100) (kh := kQ1) ok hpr hd loops_none (bquo_step m n false hm.1 hm.2.1 (by omega) hn.2)) ?_
      refine Eq.mpr (bquo_body a b c d e f g h n _ _) ?_
      refine br_iff.2 ⟨fun h => absurd h h1, fun _ => br_t hB (br_iff.2 ⟨fun h => absurd h hs, fun _ => br_t hI ?_⟩)⟩
      refine ⟨128, 0, 0, 0, 0, by omega, ?_, by omega, by omega, by omega, rfl, rfl, by rw [decide_eq_false hs]; rfl, ?_, fun q r hq => ?_⟩
      · rw [Int.mul_zero]
        have : m / 2 ^ 128 = 0 := Int.ediv_eq_zero_of_lt hm.1 hm.2.1
        omega
      · rw [em, cB_of hB]; rfl
      · rw [bquo_e1]
        refine br_mk (fun h => by cases h) (fun _ => br_t (inBn_t _) ⟨?_, rfl⟩)
        have hdm : 0 ≤ m / n ∧ m / n ≤ m := ⟨Int.ediv_nonneg hm.1 (by omega), Int.ediv_le_self _ hm.1⟩
        have e1 : w128 (nrm q) = quoT (w128 (bV a b c d e f g h)) n := by
          rw [quoT, if_neg hs, hm.2.2.1]
          generalize m / n = Q at *
          simp only [nrm_eq, w128, M128] at *
          omega
        rw [e1, quoW, quoB, if_neg h1, if_neg h1]
  · cases eR
end Go.Proofs.Ytgmddliidplooaa.W
