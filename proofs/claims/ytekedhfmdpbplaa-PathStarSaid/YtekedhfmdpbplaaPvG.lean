/- Plain: values: their order, what may be, tests, texts. -/
import Derived.Test.YtekedhfmdpbplaaPvC
import Derived.Lib.ItoaNum
set_option linter.unusedSimpArgs false
set_option linter.unusedVariables false
namespace Go.Sy
open Go
theorem drop_get {α : Type} {l : List α} {d : α} {i : Nat} (h : i < l.length) : l.drop i = l.getD i d :: l.drop (i + 1) := by
  rw [List.drop_eq_getElem_cons h]; congr 1; simp [List.getD, List.getElem?_eq_getElem h]
/- ### the order of texts -/
theorem eqBytes_iff {x y : List UInt8} : eqBytes x y = true ↔ x = y := by rw [eqBytes_eq]; simp
theorem eqBytes_comm (x y : List UInt8) : eqBytes x y = eqBytes y x := by
  rw [Bool.eq_iff_iff, eqBytes_iff, eqBytes_iff]; exact eq_comm
theorem ltBytes_cons (a b : UInt8) (x y : List UInt8) : ltBytes (a :: x) (b :: y) = true ↔ a.toNat < b.toNat ∨ (a.toNat = b.toNat ∧ ltBytes x y = true) := by
  simp only [ltBytes, Bool.or_eq_true, Bool.and_eq_true, Nat.blt_eq, Nat.beq_eq]
theorem ltBytes_trans : ∀ {x y z : List UInt8}, ltBytes x y = true → ltBytes y z = true → ltBytes x z = true
  | _, _, [], _, h2 => by rename_i y _; cases y <;> simp [ltBytes] at h2
  | _, [], _ :: _, h1, _ => by rename_i x _ _ _; cases x <;> simp [ltBytes] at h1
  | [], _ :: _, _ :: _, _, _ => by simp [ltBytes]
  | a :: x, b :: y, c :: z, h1, h2 => by
    rw [ltBytes_cons] at h1 h2 ⊢
    rcases h1 with h1 | ⟨h1, h1'⟩ <;> rcases h2 with h2 | ⟨h2, h2'⟩
    · left; omega
    · left; omega
    · left; omega
    · right; exact ⟨by omega, ltBytes_trans h1' h2'⟩
theorem ltBytes_tri : ∀ x y : List UInt8, ltBytes x y = true ∨ x = y ∨ ltBytes y x = true
  | [], [] => by simp
  | [], _ :: _ => by simp [ltBytes]
  | _ :: _, [] => by simp [ltBytes]
  | a :: x, b :: y => by
    rw [ltBytes_cons, ltBytes_cons]
    rcases Nat.lt_trichotomy a.toNat b.toNat with h | h | h
    · exact .inl (.inl h)
    · rcases ltBytes_tri x y with h' | h' | h'
      · exact .inl (.inr ⟨h, h'⟩)
      · exact .inr (.inl (by rw [h', UInt8.toNat_inj.1 h]))
      · exact .inr (.inr (.inr ⟨h.symm, h'⟩))
    · exact .inr (.inr (.inl h))
theorem ltBytes_ne {x y : List UInt8} (h : ltBytes x y = true) : x ≠ y := fun e => by subst e; rw [ltBytes_irrefl] at h; cases h
theorem ltBytes_asymm {x y : List UInt8} (h : ltBytes x y = true) : ltBytes y x = false := by
  cases h' : ltBytes y x
  · rfl
  · exact absurd rfl (ltBytes_ne (ltBytes_trans h h'))
theorem eqBytes_ne {x y : List UInt8} (h : x ≠ y) : eqBytes x y = false := by
  cases e : eqBytes x y
  · rfl
  · exact absurd (eqBytes_iff.1 e) h
/-- Two texts held against one another. -/
def c3 (c c' : List UInt8) : Int := if ltBytes c c' then -1 else if eqBytes c c' then 0 else 1
theorem c3_cases (c c' : List UInt8) : (c3 c c' = -1 ∧ ltBytes c c' = true ∧ ltBytes c' c = false ∧ c ≠ c') ∨ (c3 c c' = 0 ∧ c = c') ∨ (c3 c c' = 1 ∧ ltBytes c' c = true ∧ ltBytes c c' = false ∧ c ≠ c') := by
  rcases ltBytes_tri c c' with h | h | h
  · exact .inl ⟨by simp [c3, h], h, ltBytes_asymm h, ltBytes_ne h⟩
  · subst h; exact .inr (.inl ⟨by simp [c3, ltBytes_irrefl, eqBytes_refl], rfl⟩)
  · have hn := ltBytes_ne h
    have : eqBytes c c' = false := by
      cases e : eqBytes c c'
      · rfl
      · exact absurd (eqBytes_iff.1 e).symm hn
    exact .inr (.inr ⟨by simp [c3, ltBytes_asymm h, this], h, ltBytes_asymm h, fun e => hn e.symm⟩)
theorem cmp3_c3 (a b : Int) (c : List UInt8) (a' b' : Int) (c' : List UInt8) : cmp3 a b c a' b' c' = if a < a' then -1 else if a = a' then (if b < b' then -1 else if b = b' then c3 c c' else 1) else 1 := rfl
theorem cmp3_swap (a b : Int) (c : List UInt8) (a' b' : Int) (c' : List UInt8) : cmp3 a' b' c' a b c = - cmp3 a b c a' b' c' := by
  rw [cmp3_c3, cmp3_c3]
  have hc : c3 c' c = - c3 c c' := by
    rcases c3_cases c c' with ⟨h, h1, h2, h3⟩ | ⟨h, h1⟩ | ⟨h, h1, h2, h3⟩
    · rw [h]; simp [c3, h2, eqBytes_ne (fun e => h3 e.symm)]
    · subst h1; rw [h]; rfl
    · rw [h]; simp [c3, h1]
  rw [hc]
  repeat' split
  all_goals omega
theorem cmp3_zero {a b : Int} {c : List UInt8} {a' b' : Int} {c' : List UInt8} : cmp3 a b c a' b' c' = 0 ↔ a = a' ∧ b = b' ∧ c = c' := by
  rw [cmp3_c3]
  constructor
  · intro h
    split at h
    · cases h
    · split at h
      · split at h
        · cases h
        · split at h
          · rcases c3_cases c c' with ⟨k, _⟩ | ⟨k, k1⟩ | ⟨k, _⟩
            · rw [k] at h; cases h
            · exact ⟨by assumption, by assumption, k1⟩
            · rw [k] at h; cases h
          · cases h
      · cases h
  · rintro ⟨rfl, rfl, rfl⟩
    simp [c3, ltBytes_irrefl, eqBytes_refl]
theorem cmp3_range (a b : Int) (c : List UInt8) (a' b' : Int) (c' : List UInt8) : cmp3 a b c a' b' c' = -1 ∨ cmp3 a b c a' b' c' = 0 ∨ cmp3 a b c a' b' c' = 1 := by
  rw [cmp3_c3]
  have := c3_cases c c'
  repeat' split
  all_goals first | (exact .inl rfl) | (exact .inr (.inr rfl)) | (rcases this with ⟨k, _⟩ | ⟨k, k1⟩ | ⟨k, _⟩ <;> simp [k])
theorem cmp3_trans {a b : Int} {c : List UInt8} {a' b' : Int} {c' : List UInt8} {a'' b'' : Int} {c'' : List UInt8} (h : cmp3 a b c a' b' c' ≤ 0) (k : cmp3 a' b' c' a'' b'' c'' ≤ 0) : cmp3 a b c a'' b'' c'' ≤ 0 := by
  have hc : c3 c c' ≤ 0 → c3 c' c'' ≤ 0 → c3 c c'' ≤ 0 := by
    intro h1 h2
    rcases c3_cases c c' with ⟨p, p1, _⟩ | ⟨p, p1⟩ | ⟨p, _⟩
    · rcases c3_cases c' c'' with ⟨q, q1, _⟩ | ⟨q, q1⟩ | ⟨q, _⟩
      · simp [c3, ltBytes_trans p1 q1]
      · subst q1; exact h1
      · omega
    · subst p1; exact h2
    · omega
  rw [cmp3_c3] at h k ⊢
  repeat' split at h
  all_goals (repeat' split at k)
  all_goals (repeat' split)
  all_goals first | omega | (exact hc (by assumption) (by assumption)) | skip
/- ### rows -/
theorem cmpD_swap (x y : D) : cmpD y x = - cmpD x y := cmp3_swap _ _ _ _ _ _
theorem cmpD_range (x y : D) : cmpD x y = -1 ∨ cmpD x y = 0 ∨ cmpD x y = 1 := cmp3_range _ _ _ _ _ _
theorem rowL_swap : ∀ l m : List D, rowL m l = (rowL l m).map fun c => -c
  | [], m => by cases m <;> simp [rowL]
  | _ :: _, [] => by simp [rowL]
  | a :: l, b :: m => by
    simp only [rowL]
    rw [cmpD_swap a b]
    by_cases h : cmpD a b = 0
    · simp [h, rowL_swap l m]
    · rw [if_neg (by omega), if_neg h]; rfl
theorem rowD_swap (l m : List D) : rowD m l = - rowD l m := by
  unfold rowD
  rw [rowL_swap l m]
  cases rowL l m with
  | some c => simp
  | none =>
    simp only [Option.map_none]
    repeat' split
    all_goals omega
theorem rowL_range : ∀ (l m : List D) (c : Int), rowL l m = some c → c = -1 ∨ c = 0 ∨ c = 1
  | [], m, c, h => by simp [rowL] at h
  | _ :: _, [], c, h => by simp [rowL] at h
  | a :: l, b :: m, c, h => by
    simp only [rowL] at h
    split at h
    · exact rowL_range l m c h
    · cases h; exact cmpD_range a b
theorem rowD_range (l m : List D) : rowD l m = -1 ∨ rowD l m = 0 ∨ rowD l m = 1 := by
  unfold rowD
  cases h : rowL l m with
  | some c => exact rowL_range l m c h
  | none => simp only; repeat' split
            all_goals simp
/- ### what may be -/
def txtOk : List UInt8 → Bool
  | [] => true
  | x :: c => !(decide ((x.toNat : Int) < 32) || decide ((x.toNat : Int) > 126) || decide ((x.toNat : Int) = 39)) && txtOk c
def mayV (a b : Int) (c : List UInt8) : Bool :=
  if a = 0 then decide (b = 0) && eqBytes c [] else if a = 1 then eqBytes c [] else if a = 2 then decide (b = 0) && (txtOk c && decide ((c.length : Int) ≤ 12)) else false
def testV (op a b : Int) (c : List UInt8) (a' b' : Int) (c' : List UInt8) : Bool :=
  if op = 7 then decide (a = 0) else if op = 8 then decide (a ≠ 0) else if a = 0 ∨ a ≠ a' then false else
  if op = 1 then decide (cmp3 a b c a' b' c' = 0) else if op = 2 then decide (cmp3 a b c a' b' c' ≠ 0) else if op = 3 then decide (cmp3 a b c a' b' c' < 0) else
  if op = 4 then decide (cmp3 a b c a' b' c' ≤ 0) else if op = 5 then decide (cmp3 a b c a' b' c' > 0) else if op = 6 then decide (cmp3 a b c a' b' c' ≥ 0) else false
def itoaB (n : Int) : List UInt8 := Lib.itoa n
def textV (a b : Int) (c : List UInt8) : List UInt8 := if a = 1 then itoaB b else if a = 2 then 39 :: c ++ [39] else [110, 117, 108, 108]
/- ### names -/
def isKey (c : List UInt8) : Bool := eqBytes c [(116 : UInt8), (97 : UInt8), (98 : UInt8), (108 : UInt8), (101 : UInt8)] || (eqBytes c [(107 : UInt8), (101 : UInt8), (121 : UInt8)] || (eqBytes c [(102 : UInt8), (100 : UInt8)] || (eqBytes c [(105 : UInt8), (110 : UInt8), (116 : UInt8)] || (eqBytes c [(116 : UInt8), (101 : UInt8), (120 : UInt8), (116 : UInt8)] || (eqBytes c [(109 : UInt8), (117 : UInt8), (115 : UInt8), (116 : UInt8)] || (eqBytes c [(116 : UInt8), (111 : UInt8)] || (eqBytes c [(108 : UInt8), (111 : UInt8), (97 : UInt8), (100 : UInt8)] || (eqBytes c [(105 : UInt8), (110 : UInt8), (115 : UInt8), (101 : UInt8), (114 : UInt8), (116 : UInt8)] || (eqBytes c [(100 : UInt8), (101 : UInt8), (108 : UInt8), (101 : UInt8), (116 : UInt8), (101 : UInt8)] || (eqBytes c [(117 : UInt8), (112 : UInt8), (100 : UInt8), (97 : UInt8), (116 : UInt8), (101 : UInt8)] || (eqBytes c [(115 : UInt8), (117 : UInt8), (109 : UInt8), (109 : UInt8), (97 : UInt8), (114 : UInt8), (121 : UInt8)] || (eqBytes c [(111 : UInt8), (110 : UInt8)] || (eqBytes c [(98 : UInt8), (121 : UInt8)] || (eqBytes c [(107 : UInt8), (101 : UInt8), (101 : UInt8), (112 : UInt8)] || (eqBytes c [(100 : UInt8), (114 : UInt8), (111 : UInt8), (112 : UInt8)] || (eqBytes c [(102 : UInt8), (114 : UInt8), (111 : UInt8), (109 : UInt8)] || (eqBytes c [(119 : UInt8), (104 : UInt8), (101 : UInt8), (114 : UInt8), (101 : UInt8)] || (eqBytes c [(97 : UInt8), (110 : UInt8), (100 : UInt8)] || (eqBytes c [(105 : UInt8), (115 : UInt8)] || (eqBytes c [(110 : UInt8), (111 : UInt8), (116 : UInt8)] || (eqBytes c [(110 : UInt8), (117 : UInt8), (108 : UInt8), (108 : UInt8)] || (eqBytes c [(114 : UInt8), (111 : UInt8), (108 : UInt8), (108 : UInt8), (117 : UInt8), (112 : UInt8)] || (eqBytes c [(99 : UInt8), (117 : UInt8), (98 : UInt8), (101 : UInt8)] || (eqBytes c [(115 : UInt8), (104 : UInt8), (111 : UInt8), (119 : UInt8)] || (eqBytes c [(104 : UInt8), (97 : UInt8), (118 : UInt8), (105 : UInt8), (110 : UInt8), (103 : UInt8)] || (eqBytes c [(111 : UInt8), (114 : UInt8), (100 : UInt8), (101 : UInt8), (114 : UInt8)] || (eqBytes c [(100 : UInt8), (101 : UInt8), (115 : UInt8), (99 : UInt8)] || (eqBytes c [(108 : UInt8), (105 : UInt8), (109 : UInt8), (105 : UInt8), (116 : UInt8)] || (eqBytes c [(117 : UInt8), (115 : UInt8), (105 : UInt8), (110 : UInt8), (103 : UInt8)] || (eqBytes c [(98 : UInt8), (97 : UInt8), (115 : UInt8), (101 : UInt8)] || (eqBytes c [(99 : UInt8), (111 : UInt8), (117 : UInt8), (110 : UInt8), (116 : UInt8)] || (eqBytes c [(115 : UInt8), (117 : UInt8), (109 : UInt8)] || (eqBytes c [(109 : UInt8), (105 : UInt8), (110 : UInt8)] || (eqBytes c [(109 : UInt8), (97 : UInt8), (120 : UInt8)] || (eqBytes c [(97 : UInt8), (118 : UInt8), (103 : UInt8)] || (eqBytes c [(100 : UInt8), (105 : UInt8), (115 : UInt8), (116 : UInt8), (105 : UInt8), (110 : UInt8), (99 : UInt8), (116 : UInt8)] || (eqBytes c [(114 : UInt8), (111 : UInt8), (119 : UInt8), (115 : UInt8)])))))))))))))))))))))))))))))))))))))
def isWord (c : List UInt8) : Bool := eqBytes [(116 : UInt8), (97 : UInt8), (98 : UInt8), (108 : UInt8), (101 : UInt8)] c || (eqBytes [(107 : UInt8), (101 : UInt8), (121 : UInt8)] c || (eqBytes [(102 : UInt8), (100 : UInt8)] c || (eqBytes [(105 : UInt8), (110 : UInt8), (116 : UInt8)] c || (eqBytes [(116 : UInt8), (101 : UInt8), (120 : UInt8), (116 : UInt8)] c || (eqBytes [(109 : UInt8), (117 : UInt8), (115 : UInt8), (116 : UInt8)] c || (eqBytes [(116 : UInt8), (111 : UInt8)] c || (eqBytes [(108 : UInt8), (111 : UInt8), (97 : UInt8), (100 : UInt8)] c || (eqBytes [(105 : UInt8), (110 : UInt8), (115 : UInt8), (101 : UInt8), (114 : UInt8), (116 : UInt8)] c || (eqBytes [(100 : UInt8), (101 : UInt8), (108 : UInt8), (101 : UInt8), (116 : UInt8), (101 : UInt8)] c || (eqBytes [(117 : UInt8), (112 : UInt8), (100 : UInt8), (97 : UInt8), (116 : UInt8), (101 : UInt8)] c || (eqBytes [(115 : UInt8), (117 : UInt8), (109 : UInt8), (109 : UInt8), (97 : UInt8), (114 : UInt8), (121 : UInt8)] c || (eqBytes [(111 : UInt8), (110 : UInt8)] c || (eqBytes [(98 : UInt8), (121 : UInt8)] c || (eqBytes [(107 : UInt8), (101 : UInt8), (101 : UInt8), (112 : UInt8)] c || (eqBytes [(100 : UInt8), (114 : UInt8), (111 : UInt8), (112 : UInt8)] c || (eqBytes [(102 : UInt8), (114 : UInt8), (111 : UInt8), (109 : UInt8)] c || (eqBytes [(119 : UInt8), (104 : UInt8), (101 : UInt8), (114 : UInt8), (101 : UInt8)] c || (eqBytes [(97 : UInt8), (110 : UInt8), (100 : UInt8)] c || (eqBytes [(105 : UInt8), (115 : UInt8)] c || (eqBytes [(110 : UInt8), (111 : UInt8), (116 : UInt8)] c || (eqBytes [(110 : UInt8), (117 : UInt8), (108 : UInt8), (108 : UInt8)] c || (eqBytes [(114 : UInt8), (111 : UInt8), (108 : UInt8), (108 : UInt8), (117 : UInt8), (112 : UInt8)] c || (eqBytes [(99 : UInt8), (117 : UInt8), (98 : UInt8), (101 : UInt8)] c || (eqBytes [(115 : UInt8), (104 : UInt8), (111 : UInt8), (119 : UInt8)] c || (eqBytes [(104 : UInt8), (97 : UInt8), (118 : UInt8), (105 : UInt8), (110 : UInt8), (103 : UInt8)] c || (eqBytes [(111 : UInt8), (114 : UInt8), (100 : UInt8), (101 : UInt8), (114 : UInt8)] c || (eqBytes [(100 : UInt8), (101 : UInt8), (115 : UInt8), (99 : UInt8)] c || (eqBytes [(108 : UInt8), (105 : UInt8), (109 : UInt8), (105 : UInt8), (116 : UInt8)] c || (eqBytes [(117 : UInt8), (115 : UInt8), (105 : UInt8), (110 : UInt8), (103 : UInt8)] c || (eqBytes [(98 : UInt8), (97 : UInt8), (115 : UInt8), (101 : UInt8)] c || (eqBytes [(99 : UInt8), (111 : UInt8), (117 : UInt8), (110 : UInt8), (116 : UInt8)] c || (eqBytes [(115 : UInt8), (117 : UInt8), (109 : UInt8)] c || (eqBytes [(109 : UInt8), (105 : UInt8), (110 : UInt8)] c || (eqBytes [(109 : UInt8), (97 : UInt8), (120 : UInt8)] c || (eqBytes [(97 : UInt8), (118 : UInt8), (103 : UInt8)] c || (eqBytes [(100 : UInt8), (105 : UInt8), (115 : UInt8), (116 : UInt8), (105 : UInt8), (110 : UInt8), (99 : UInt8), (116 : UInt8)] c || (eqBytes [(114 : UInt8), (111 : UInt8), (119 : UInt8), (115 : UInt8)] c)))))))))))))))))))))))))))))))))))))
theorem isWord_eq (c : List UInt8) : isWord c = isKey c := by unfold isWord isKey; simp only [eqBytes_comm c]
def ltrI (x : Int) : Bool := (decide (97 ≤ x) && decide (x ≤ 122)) || decide (x = 95)
def digI (x : Int) : Bool := decide (48 ≤ x) && decide (x ≤ 57)
def letB (x : UInt8) : Bool := ltrI (x.toNat : Int)
def digB (x : UInt8) : Bool := digI (x.toNat : Int)
def lettersOk : List UInt8 → Bool
  | [] => true
  | x :: c => (letB x || digB x) && lettersOk c
def nameV (c : List UInt8) : Bool := match c with
  | [] => false
  | x :: _ => decide (c.length ≤ 12) && !digB x && !isKey c && lettersOk c
theorem nameV_some {c : List UInt8} (h : 0 < c.length) : nameV c = (decide (c.length ≤ 12) && !digI ((c.getD 0 0).toNat : Int) && !isKey c && lettersOk c) := by
  cases c with
  | nil => simp at h
  | cons x r => rfl
/- ### numbers' texts -/
theorem nDigits_le {u : Nat} (h : u < 18446744073709551616) : Lib.nDigits u ≤ 20 := by
  by_cases h0 : u = 0
  · subst h0; rw [Lib.nDigits_small (by omega)]; omega
  · have := Lib.numDigits_eq u (by omega) h
    obtain ⟨e, h1⟩ := this
    split at e <;> omega
theorem decDigits_small {u : Nat} (h : u < 10) : Lib.decDigits u = [UInt8.ofNat (48 + u)] := Lib.decDigits_one h
theorem decDigits_big {u : Nat} (h : ¬ u < 10) : Lib.decDigits u = Lib.decDigits (u / 10) ++ [UInt8.ofNat (48 + u % 10)] := by rw [Lib.decDigits, dif_neg h]
theorem u64_wrap {x : Int} (h0 : 0 ≤ x) (h1 : x < 18446744073709551616) : IntKind.u64.wrap x = x := by
  simp only [IntKind.wrap, IntKind.bits, IntKind.signed]; simp; omega
theorem u8_wrap {x : Int} (h0 : 0 ≤ x) (h1 : x < 256) : IntKind.u8.wrap x = x := by
  simp only [IntKind.wrap, IntKind.bits, IntKind.signed]; simp; omega
theorem u64_neg {n : Int} (h0 : -9223372036854775808 ≤ n) (h1 : n < 0) : IntKind.u64.wrap ((0 : Int) - IntKind.u64.wrap n) = (n.natAbs : Int) := by
  simp only [IntKind.wrap, IntKind.bits, IntKind.signed]; simp; omega
theorem dig_byte (u : Nat) : UInt8.ofNat (IntKind.u8.wrap (IntKind.u64.wrap ((48 : Int) + (↑u : Int).tmod (10 : Int)))).toNat = UInt8.ofNat (48 + u % 10) := by
  have e : (u : Int).tmod 10 = ((u % 10 : Nat) : Int) := rfl
  have h : u % 10 < 10 := Nat.mod_lt _ (by omega)
  rw [e, u64_wrap (by omega) (by omega), u8_wrap (by omega) (by omega)]
  congr 1
theorem dig_rest {u : Nat} (h : u < 18446744073709551616) : IntKind.u64.wrap ((↑u : Int).tdiv (10 : Int)) = ((u / 10 : Nat) : Int) := by
  have e : (u : Int).tdiv 10 = ((u / 10 : Nat) : Int) := rfl
  rw [e, u64_wrap (by omega) (by omega)]
def valOf : List UInt8 → Nat := List.foldl (fun n x => n * 10 + (x.toNat - 48)) 0
theorem digits_val : ∀ (u : Nat), valOf (Lib.decDigits u) = u ∧ (∀ x ∈ Lib.decDigits u, 48 ≤ x.toNat ∧ x.toNat ≤ 57) ∧ Lib.decDigits u ≠ [] := by
  intro u
  induction u using Nat.strongRecOn with
  | _ u ih =>
    have hb : ∀ d : Nat, d < 10 → (UInt8.ofNat (48 + d)).toNat = 48 + d := fun d hd => by simp; omega
    by_cases h : u < 10
    · rw [decDigits_small h]
      refine ⟨by simp only [valOf, List.foldl_cons, List.foldl_nil, hb u h]; omega, fun x hx => ?_, by simp⟩
      have := List.mem_singleton.1 hx
      subst this
      rw [hb u h]; omega
    · rw [decDigits_big h]
      obtain ⟨h1, h2, h3⟩ := ih (u / 10) (by omega)
      have hd : u % 10 < 10 := Nat.mod_lt _ (by omega)
      refine ⟨?_, fun x hx => ?_, by simp⟩
      · unfold valOf at h1 ⊢
        rw [List.foldl_append, h1]
        simp only [List.foldl_cons, List.foldl_nil, hb _ hd]
        omega
      · rcases List.mem_append.1 hx with hx | hx
        · exact h2 x hx
        · have := List.mem_singleton.1 hx
          subst this
          rw [hb _ hd]; omega
theorem decDigits_inj {u v : Nat} (h : Lib.decDigits u = Lib.decDigits v) : u = v := by
  have h1 := (digits_val u).1
  have h2 := (digits_val v).1
  rw [h, h2] at h1
  exact h1.symm
theorem decDigits_head (u : Nat) : ∃ x l, Lib.decDigits u = x :: l ∧ 48 ≤ x.toNat ∧ x.toNat ≤ 57 := by
  obtain ⟨_, h2, h3⟩ := digits_val u
  cases h : Lib.decDigits u with
  | nil => exact absurd h h3
  | cons x l =>
    rw [h] at h2
    exact ⟨x, l, rfl, h2 x (by simp)⟩
theorem itoa_head (n : Int) : ∃ x l, itoaB n = x :: l ∧ (x.toNat = 45 ∨ (48 ≤ x.toNat ∧ x.toNat ≤ 57)) ∧ (x.toNat = 45 ↔ n < 0) := by
  unfold itoaB Lib.itoa
  by_cases h : n < 0
  · rw [if_pos h]; exact ⟨45, _, rfl, .inl rfl, by simp [h]⟩
  · rw [if_neg h]
    obtain ⟨x, l, e, h1, h2⟩ := decDigits_head n.toNat
    exact ⟨x, l, e, .inr ⟨h1, h2⟩, by omega⟩
theorem itoa_inj {n m : Int} (h : itoaB n = itoaB m) : n = m := by
  have hs : n < 0 ↔ m < 0 := by
    obtain ⟨x, l, e, _, h2⟩ := itoa_head n
    obtain ⟨y, l', e', _, h2'⟩ := itoa_head m
    rw [e, e'] at h
    cases h
    rw [← h2, ← h2']
  unfold itoaB Lib.itoa at h
  by_cases h1 : n < 0
  · rw [if_pos h1, if_pos (hs.1 h1)] at h
    have := decDigits_inj (List.cons.inj h).2
    omega
  · rw [if_neg h1, if_neg (fun h2 => h1 (hs.2 h2))] at h
    have := decDigits_inj h
    omega
theorem cut20 (c : List UInt8) : (cutS c 20).length < 1000 := by
  unfold cutS
  split
  · simp; omega
  · omega
theorem may_cases {a b : Int} {c : List UInt8} (h : mayV a b c = true) : (a = 0 ∧ b = 0 ∧ c = []) ∨ (a = 1 ∧ c = []) ∨ (a = 2 ∧ b = 0) := by
  unfold mayV at h
  split at h
  · simp only [Bool.and_eq_true, decide_eq_true_eq, eqBytes_iff] at h
    exact .inl ⟨by assumption, h.1, h.2⟩
  · split at h
    · exact .inr (.inl ⟨by assumption, eqBytes_iff.1 h⟩)
    · split at h
      · simp only [Bool.and_eq_true, decide_eq_true_eq] at h
        exact .inr (.inr ⟨by assumption, h.1⟩)
      · cases h
/-- The texts of two that may be are the same just if they are. -/
theorem text_inj {a b : Int} {c : List UInt8} {a' b' : Int} {c' : List UInt8} (h : mayV a b c = true) (h' : mayV a' b' c' = true) : eqBytes (textV a b c) (textV a' b' c') = decide (cmp3 a b c a' b' c' = 0) := by
  rw [Bool.eq_iff_iff, eqBytes_iff, decide_eq_true_eq, cmp3_zero]
  refine ⟨fun e => ?_, fun ⟨h1, h2, h3⟩ => by rw [h1, h2, h3]⟩
  have hx : ∀ x : UInt8, x.toNat = 39 → ¬ (x.toNat = 45 ∨ (48 ≤ x.toNat ∧ x.toNat ≤ 57)) := fun x hx h => by omega
  rcases may_cases h with ⟨rfl, rfl, rfl⟩ | ⟨rfl, rfl⟩ | ⟨rfl, rfl⟩ <;> rcases may_cases h' with ⟨rfl, rfl, rfl⟩ | ⟨rfl, rfl⟩ | ⟨rfl, rfl⟩
  · exact ⟨rfl, rfl, rfl⟩
  · obtain ⟨x, l, e1, h1, _⟩ := itoa_head b'
    simp only [textV] at e
    simp [e1] at e
    rw [← e.1] at h1
    simp at h1
  · simp [textV] at e
  · obtain ⟨x, l, e1, h1, _⟩ := itoa_head b
    simp only [textV] at e
    simp [e1] at e
    rw [e.1] at h1
    simp at h1
  · simp only [textV] at e
    exact ⟨rfl, itoa_inj (by simpa using e), rfl⟩
  · obtain ⟨x, l, e1, h1, _⟩ := itoa_head b
    simp only [textV] at e
    simp [e1] at e
    rw [e.1] at h1
    simp at h1
  · simp [textV] at e
  · obtain ⟨x, l, e1, h1, _⟩ := itoa_head b'
    simp only [textV] at e
    simp [e1] at e
    rw [← e.1] at h1
    simp at h1
  · simp [textV] at e
    exact ⟨rfl, rfl, e⟩
/- ### a text of one sign -/
theorem fill_set {N i : Nat} {a b : D} (h : i < N) : (List.replicate i a ++ List.replicate (N - i) b).set i a = List.replicate (i + 1) a ++ List.replicate (N - (i + 1)) b := by
  rw [show N - i = (N - (i + 1)) + 1 by omega, List.replicate_succ, List.set_append_right _ _ (by simp)]
  simp [List.replicate_succ']
theorem txtOk_rep (y : UInt8) : ∀ N : Nat, txtOk (List.replicate N y) = (decide (N = 0) || !(decide ((y.toNat : Int) < 32) || decide ((y.toNat : Int) > 126) || decide ((y.toNat : Int) = 39)))
  | 0 => by simp [txtOk]
  | N + 1 => by
    rw [List.replicate_succ, txtOk, txtOk_rep y N]
    cases (!(decide ((y.toNat : Int) < 32) || decide ((y.toNat : Int) > 126) || decide ((y.toNat : Int) = 39))) <;> simp
theorem bytes_rep (N : Nat) (x : Int) : bytesD (List.take N (List.drop 0 (List.replicate N (D.int x)))) = List.replicate N (UInt8.ofNat x.toNat) := by
  simp [bytesD, D.asInt]
/- ### rows, as the library goes through them -/
def cfL : List D → List D → Option Int
  | a :: l, b :: m => if cmpD a b = 0 then cfL l m else some (cmpD a b)
  | _ :: _, [] => some 1
  | [], _ => none
theorem cfL_row : ∀ l m : List D, (match cfL l m with | some c => c | none => if l.length < m.length then -1 else 0) = rowD l m
  | [], m => by cases m <;> simp [cfL, rowD, rowL]
  | _ :: _, [] => by simp [cfL, rowD, rowL]
  | a :: l, b :: m => by
    have ih := cfL_row l m
    unfold rowD at ih ⊢
    simp only [cfL, rowL]
    by_cases h : cmpD a b = 0
    · simp only [if_pos h, List.length_cons]
      simp only [gt_iff_lt, Nat.add_lt_add_iff_right] at ih ⊢
      exact ih
    · simp only [if_neg h]
/- ### what functions answer -/
def nanIF : Spec := ⟨[], fun args s => match args, s with
  | [.int .i64 _], [] => .ok true (.bool false) [] []
  | _, _ => .fail⟩
def nanSF : Spec := ⟨[], fun args s => match args, s with
  | [.str _], [] => .ok true (.bool false) [] []
  | _, _ => .fail⟩
def cmpI (a b : Int) : Int := if a < b then -1 else if b < a then 1 else 0
def cmpIF : Spec := ⟨[], fun args s => match args, s with
  | [.int .i64 a, .int .i64 b], [] => .ok true (.int .i64 (cmpI a b)) [] []
  | _, _ => .fail⟩
def cmpSF : Spec := ⟨[], fun args s => match args, s with
  | [.str a, .str b], [] => .ok true (.int .i64 (c3 a b)) [] []
  | _, _ => .fail⟩
def or3 (a b c : Int) : Int := if a ≠ 0 then a else if b ≠ 0 then b else c
def orF : Spec := ⟨[.data (.slice (.int .i64))], fun args s => match args, s with
  | [.fz false (.int .i64) [.int a, .int b, .int c]], [] => .ok true (.int .i64 (or3 a b c)) [] []
  | _, _ => .fail⟩
theorem cmp3_or (a b : Int) (c : List UInt8) (a' b' : Int) (c' : List UInt8) : cmp3 a b c a' b' c' = or3 (cmpI a a') (cmpI b b') (c3 c c') := by
  rw [cmp3_c3, or3, cmpI, cmpI]
  by_cases h1 : a < a' <;> by_cases h2 : a = a' <;> by_cases h3 : b < b' <;> by_cases h4 : b = b' <;> first | omega | (simp [h1, h2, h3, h4]; try omega) | skip
def eqVF : Spec := ⟨[], fun args s => match args, s with
  | [.agg [.int .i64 a, .int .i64 b, .str c], .agg [.int .i64 a', .int .i64 b', .str c']], [] => .ok true (.bool (decide (cmp3 a b c a' b' c' = 0))) [] []
  | _, _ => .fail⟩
def testF : Spec := ⟨[], fun args s => match args, s with
  | [.int .i64 op, .agg [.int .i64 a, .int .i64 b, .str c], .agg [.int .i64 a', .int .i64 b', .str c']], [] => .ok true (.bool (testV op a b c a' b' c')) [] []
  | _, _ => .fail⟩
def mayF : Spec := ⟨[], fun args s => match args, s with
  | [.agg [.int .i64 a, .int .i64 b, .str c]], [] => .ok (decide (c.length < 1000)) (.bool (mayV a b c)) [] []
  | _, _ => .fail⟩
def txtF : Spec := ⟨[], fun args s => match args, s with
  | [.str c], [] => .ok (decide (c.length < 1000)) (.bool (txtOk c && decide ((c.length : Int) ≤ 12))) [] []
  | _, _ => .fail⟩
def numVF : Spec := ⟨[], fun args s => match args, s with
  | [.int .i64 n], [] => .ok true (avV 1 n []) [] []
  | _, _ => .fail⟩
def txtVF : Spec := ⟨[], fun args s => match args, s with
  | [.str c], [] => .ok true (avV 2 0 c) [] []
  | _, _ => .fail⟩
def in64 (n : Int) : Bool := decide (-9223372036854775808 ≤ n) && decide (n ≤ 9223372036854775807)
def fmtF : Spec := ⟨[], fun args s => match args, s with
  | [.int .i64 n, .int .i64 10], [] => .ok (in64 n) (.str (itoaB n)) [] []
  | _, _ => .fail⟩
def digsF : Spec := ⟨[], fun args s => match args, s with
  | [.int .i64 n], [] => .ok (in64 n) (.str (itoaB n)) [] []
  | _, _ => .fail⟩
def textF : Spec := ⟨[], fun args s => match args, s with
  | [.agg [.int .i64 a, .int .i64 b, .str c]], [] => .ok (in64 b && decide (c.length < 1000)) (.str (textV a b c)) [] []
  | _, _ => .fail⟩
def letF : Spec := ⟨[], fun args s => match args, s with
  | [.int .u8 x], [] => .ok true (.bool (ltrI x)) [] []
  | _, _ => .fail⟩
def digF : Spec := ⟨[], fun args s => match args, s with
  | [.int .u8 x], [] => .ok true (.bool (digI x)) [] []
  | _, _ => .fail⟩
def keyF : Spec := ⟨[], fun args s => match args, s with
  | [.str c], [] => .ok true (.bool (isKey c)) [] []
  | _, _ => .fail⟩
def nameF : Spec := ⟨[], fun args s => match args, s with
  | [.str c], [] => .ok (decide (c.length < 1000)) (.bool (nameV c)) [] []
  | _, _ => .fail⟩
/-- Rows, by a function that holds two values against one another. -/
def cfF (g : FuncId) : Spec := ⟨[.data (.slice shV), .data (.slice shV), .keep], fun args s => match args, s with
  | [.fz false e l, .fz false e' m, .fn (.func g') [] []], [] => .ok (Sh.beq e shV && (Sh.beq e' shV && (Nat.beq g g' && decide (l.length < 2 ^ 62)))) (.int .i64 (rowD l m)) [] []
  | _, _ => .fail⟩
end Go.Sy
