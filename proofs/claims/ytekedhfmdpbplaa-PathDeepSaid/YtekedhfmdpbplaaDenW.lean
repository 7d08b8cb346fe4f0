/- The faster form: operations, regions, code, calls; it comes to what the abstract machine comes to. -/
import Derived.Test.YtekedhfmdpbplaaDenV
set_option linter.unusedSimpArgs false
set_option linter.unusedVariables false
namespace Go.Den
open Go

theorem evF_eq {t : T} {l : List AV} (h : Rt t l) : evF t = evA l := by
  funext x
  cases x <;> simp [evF, evA, h _]

section
variable (ev : Operand → Option AV)
def consE (x : Option AV) (r : Option (List AV)) : Option (List AV) :=
  match x with
  | none => none
  | some v => match r with
    | none => none
    | some l => some (v :: l)
def consPE (i : Nat) (x : Option AV) (r : Option (List (Nat × AV))) : Option (List (Nat × AV)) :=
  match x with
  | none => none
  | some v => match r with
    | none => none
    | some l => some ((i, v) :: l)
noncomputable def evsE (l : List Operand) : Option (List AV) :=
  List.rec (motive := fun _ => Option (List AV)) (some []) (fun x _ ih => consE (ev x) ih) l
def evOptE : Option Operand → Option (Option AV)
  | none => some none
  | some x => match ev x with
    | none => none
    | some v => some (some v)
noncomputable def evPartsE (l : List (Nat × Operand)) : Option (List (Nat × AV)) :=
  List.rec (motive := fun _ => Option (List (Nat × AV))) (some []) (fun p _ ih => Prod.rec (motive := fun _ => Option (List (Nat × AV))) (fun i x => consPE i (ev x) ih) p) l
end
theorem evsE_eq (t : List AV) : ∀ l, evsE (evA t) l = evsA t l
  | [] => rfl
  | x :: xs => by
    show consE (evA t x) (evsE (evA t) xs) = _
    simp only [consE, evsA, evsE_eq t xs]; rfl
theorem evOptE_eq (t : List AV) : ∀ l, evOptE (evA t) l = evOptA t l
  | none => rfl
  | some x => rfl
theorem evPartsE_eq (t : List AV) : ∀ l, evPartsE (evA t) l = evPartsA t l
  | [] => rfl
  | (i, x) :: xs => by
    show consPE i (evA t x) (evPartsE (evA t) xs) = _
    simp only [consPE, evPartsA, evPartsE_eq t xs]; rfl

/- ### Numbers -/
def sameK (k k' : IntKind) : Bool := Nat.beq k.ctorIdx k'.ctorIdx
theorem sameK_eq (k k' : IntKind) : sameK k k' = decide (k = k') := by cases k <;> cases k' <;> rfl
def wrap64 (k : IntKind) (n : Int) : Int :=
  match n with
  | .ofNat a => match Nat.blt a 9223372036854775808 with
    | true => .ofNat a
    | false => k.wrap n
  | .negSucc a => match Nat.blt a 9223372036854775808 with
    | true => .negSucc a
    | false => k.wrap n
def wrapF (k : IntKind) (n : Int) : Int :=
  match k with
  | .i64 => wrap64 .i64 n
  | k => k.wrap n
theorem wrap64_in (n : Int) (h1 : -9223372036854775808 ≤ n) (h2 : n < 9223372036854775808) : IntKind.i64.wrap n = n := by
  show (if true && decide (n % (2 ^ 64 : Int) ≥ (2 ^ 63 : Int)) then n % (2 ^ 64 : Int) - (2 ^ 64 : Int) else n % (2 ^ 64 : Int)) = n
  simp only [Bool.true_and, decide_eq_true_eq]
  split <;> omega
theorem wrap64_eq (n : Int) : wrap64 .i64 n = IntKind.i64.wrap n := by
  unfold wrap64
  split
  · split
    · rename_i a _ h
      have := Nat.le_of_ble_eq_true h
      exact (wrap64_in _ (by simp only [Int.ofNat_eq_natCast]; omega) (by simp only [Int.ofNat_eq_natCast]; omega)).symm
    · rfl
  · split
    · rename_i a _ h
      have := Nat.le_of_ble_eq_true h
      exact (wrap64_in _ (by omega) (by omega)).symm
    · rfl
theorem wrapF_eq (k : IntKind) (n : Int) : wrapF k n = k.wrap n := by
  cases k <;> first | exact wrap64_eq n | rfl
def addF (n m : Int) : Int :=
  match n with
  | .ofNat a => match m with
    | .ofNat b => .ofNat (Nat.add a b)
    | .negSucc _ => Int.add n m
  | .negSucc _ => Int.add n m
theorem addF_eq (n m : Int) : addF n m = n + m := by cases n <;> cases m <;> rfl
def subF (n m : Int) : Int :=
  match n with
  | .ofNat a => match m with
    | .ofNat b => match Nat.ble b a with
      | true => .ofNat (Nat.sub a b)
      | false => Int.sub n m
    | .negSucc _ => Int.sub n m
  | .negSucc _ => Int.sub n m
theorem subF_eq (n m : Int) : subF n m = n - m := by
  cases n with
  | negSucc a => rfl
  | ofNat a => cases m with
    | negSucc b => rfl
    | ofNat b =>
      simp only [subF]
      split
      · rename_i h
        have := Nat.le_of_ble_eq_true h
        show Int.ofNat (a - b) = _
        simp only [Int.ofNat_eq_natCast]
        omega
      · rfl
def ltF (n m : Int) : Bool :=
  match n with
  | .ofNat a => match m with
    | .ofNat b => Nat.blt a b
    | .negSucc _ => false
  | .negSucc a => match m with
    | .ofNat _ => true
    | .negSucc b => Nat.blt b a
theorem ltF_eq (n m : Int) : ltF n m = decide (n < m) := by
  cases n with
  | ofNat a => cases m with
    | ofNat b =>
      simp only [ltF, Int.ofNat_eq_natCast]
      rw [Bool.eq_iff_iff]
      simp [Nat.blt_eq]
    | negSucc b =>
      simp only [ltF]
      symm
      simp only [decide_eq_false_iff_not, Int.ofNat_eq_natCast]
      omega
  | negSucc a => cases m with
    | ofNat b =>
      simp only [ltF]
      symm
      simp only [decide_eq_true_eq, Int.ofNat_eq_natCast]
      omega
    | negSucc b =>
      simp only [ltF]
      rw [Bool.eq_iff_iff]
      simp only [Nat.blt_eq, decide_eq_true_eq]
      omega
def eqF (n m : Int) : Bool :=
  match n with
  | .ofNat a => match m with
    | .ofNat b => Nat.beq a b
    | .negSucc _ => false
  | .negSucc a => match m with
    | .ofNat _ => false
    | .negSucc b => Nat.beq a b
theorem eqF_eq (n m : Int) : eqF n m = (n == m) := by
  cases n <;> cases m <;> simp only [eqF] <;> rw [Bool.eq_iff_iff] <;> simp [Nat.beq_eq] <;> omega

def int2 (P : Program) (op : BinOp) (t : TypeId) (k : IntKind) (n : Int) (k' : IntKind) (m : Int) : Option AV :=
  match op with
  | .add => match sameK k k' with | true => some (.int k (wrapF k (addF n m))) | false => none
  | .sub => match sameK k k' with | true => some (.int k (wrapF k (subF n m))) | false => none
  | .eql => match sameK k k' with | true => some (.bool (eqF n m)) | false => none
  | .neq => match sameK k k' with | true => some (.bool (!eqF n m)) | false => none
  | .lss => match sameK k k' with | true => some (.bool (ltF n m)) | false => none
  | .leq => match sameK k k' with | true => some (.bool (!ltF m n)) | false => none
  | .gtr => match sameK k k' with | true => some (.bool (ltF m n)) | false => none
  | .geq => match sameK k k' with | true => some (.bool (!ltF n m)) | false => none
  | op => binA P op t (.int k n) (.int k' m)
theorem int2_eq (P : Program) (op : BinOp) (t : TypeId) (k : IntKind) (n : Int) (k' : IntKind) (m : Int) : int2 P op t k n k' m = binA P op t (.int k n) (.int k' m) := by
  have h1 : decide (n ≤ m) = !decide (m < n) := by rw [Bool.eq_iff_iff]; simp
  have h2 : decide (n ≥ m) = !decide (n < m) := by rw [Bool.eq_iff_iff]; simp
  cases op <;> first | rfl | (simp only [int2, binA, sameK_eq, intOp, wrapF_eq, addF_eq, subF_eq, ltF_eq, eqF_eq, bne, h1, h2] <;> rfl)
def bin2 (P : Program) (op : BinOp) (t : TypeId) (a b : AV) : Option AV :=
  match a with
  | .int k n => match b with
    | .int k' m => int2 P op t k n k' m
    | b => binA P op t (.int k n) b
  | a => binA P op t a b
theorem bin2_eq (P : Program) (op : BinOp) (t : TypeId) (a b : AV) : bin2 P op t a b = binA P op t a b := by
  cases a <;> first | rfl | (cases b <;> first | rfl | exact int2_eq ..)
def bin1 (P : Program) (op : BinOp) (t : TypeId) (x y : Option AV) : Option AV :=
  match x with
  | none => none
  | some a => match y with
    | none => none
    | some b => bin2 P op t a b
def inB (i : Int) (len : Nat) : Bool :=
  match i with
  | .ofNat a => Nat.blt a len
  | .negSucc _ => false
theorem inB_eq (i : Int) (len : Nat) : inB i len = (decide (0 ≤ i) && decide (i < (len : Int))) := by
  cases i with
  | ofNat a =>
    simp only [inB, Int.ofNat_eq_natCast]
    rw [Bool.eq_iff_iff]
    simp only [Nat.blt_eq, Bool.and_eq_true, decide_eq_true_eq]
    omega
  | negSucc a =>
    simp only [inB]
    symm
    rw [Bool.and_eq_false_iff]
    left
    simp only [decide_eq_false_iff_not]
    omega
def idxA2 (P : Program) (t : TypeId) (a i : AV) : Option AV :=
  match i with
  | .int k n => match a with
    | .sl (some (b, off)) len c => match P.underlying t with
      | some (.slice e) => match sizeA P e with
        | some sz => match inB n len with
          | true => some (.ptr (some (b, off + n.toNat * sz)))
          | false => none
        | none => none
      | _ => none
    | a => indexAddrA P t a (.int k n)
  | _ => none
theorem idxA2_eq (P : Program) (t : TypeId) (a i : AV) : idxA2 P t a i = indexAddrA P t a i := by
  cases i <;> try rfl
  rename_i k n
  cases a <;> try rfl
  rename_i p len c
  rcases p with _ | ⟨b, off⟩
  · rfl
  · simp only [idxA2, indexAddrA]
    cases P.underlying t with
    | none => rfl
    | some d =>
      cases d <;> simp only
      · rename_i e
        cases sizeA P e with
        | none => rfl
        | some sz => simp only [inB_eq]; rfl

/- ### Memory -/
noncomputable def Tr.getP {α : Type} (t : Tr α) : List Bool → Option α :=
  Tr.rec (motive := fun _ => List Bool → Option α) (fun _ => none) (fun _ v _ gl gr p => List.rec (motive := fun _ => Option α) v (fun b q _ => Bool.rec (motive := fun _ => Option α) (gr q) (gl q) b) p) t
theorem getP_pathF {α : Type} : ∀ (t : Tr α) (f i : Nat), i ≤ f → t.getP (pathF f i) = t.get i
  | .leaf, f, i, _ => by rw [Tr.get_leaf]; rfl
  | .node l v r, 0, i, h => by
    obtain rfl : i = 0 := by omega
    simp only [Tr.get]
    rfl
  | .node l v r, f + 1, i, h => by
    simp only [Tr.get, pathF]
    cases h0 : Nat.beq i 0 with
    | true => rfl
    | false =>
      have := Nat.ne_of_beq_eq_false h0
      simp only
      cases h1 : Nat.beq (i % 2) 1 with
      | true => exact getP_pathF l f (i / 2) (by omega)
      | false =>
        have := Nat.ne_of_beq_eq_false h1
        exact getP_pathF r f (i / 2 - 1) (by omega)
theorem getP_eq {α : Type} (t : Tr α) (i : Nat) : t.getP (path i) = t.get i := getP_pathF t i i (Nat.le_refl _)
noncomputable def Tr.oneP {α : Type} (a : α) (p : List Bool) : Tr α :=
  List.rec (motive := fun _ => Tr α) (.node .leaf (some a) .leaf) (fun b _ m => Bool.rec (motive := fun _ => Tr α) (.node .leaf none m) (.node m none .leaf) b) p
noncomputable def Tr.setP {α : Type} (a : α) (t : Tr α) : List Bool → Tr α :=
  Tr.rec (motive := fun _ => List Bool → Tr α) (fun p => Tr.oneP a p) (fun l u r sl sr p => List.rec (motive := fun _ => Tr α) (.node l (some a) r) (fun b q _ => Bool.rec (motive := fun _ => Tr α) (.node l u (sr q)) (.node (sl q) u r) b) p) t
theorem oneP_pathF {α : Type} (a : α) : ∀ (f i : Nat), i ≤ f → Tr.oneP a (pathF f i) = Tr.setF (f + 1) .leaf i a
  | 0, i, h => by
    obtain rfl : i = 0 := by omega
    rfl
  | f + 1, i, h => by
    rw [Tr.setF.eq_def]
    simp only [pathF]
    cases h0 : Nat.beq i 0 with
    | true => rfl
    | false =>
      have := Nat.ne_of_beq_eq_false h0
      simp only
      cases h1 : Nat.beq (i % 2) 1 with
      | true =>
        simp only
        rw [← oneP_pathF a f (i / 2) (by omega)]
        rfl
      | false =>
        have := Nat.ne_of_beq_eq_false h1
        simp only
        rw [← oneP_pathF a f (i / 2 - 1) (by omega)]
        rfl
theorem setP_pathF {α : Type} (a : α) : ∀ (t : Tr α) (f i : Nat), i ≤ f → t.setP a (pathF f i) = Tr.setF (f + 1) t i a
  | .leaf, f, i, h => oneP_pathF a f i h
  | .node l v r, 0, i, h => by
    obtain rfl : i = 0 := by omega
    rfl
  | .node l v r, f + 1, i, h => by
    rw [Tr.setF.eq_def]
    simp only [pathF]
    cases h0 : Nat.beq i 0 with
    | true => rfl
    | false =>
      have := Nat.ne_of_beq_eq_false h0
      simp only
      cases h1 : Nat.beq (i % 2) 1 with
      | true =>
        simp only
        rw [← setP_pathF a l f (i / 2) (by omega)]
        rfl
      | false =>
        have := Nat.ne_of_beq_eq_false h1
        simp only
        rw [← setP_pathF a r f (i / 2 - 1) (by omega)]
        rfl
theorem setP_eq {α : Type} (t : Tr α) (i : Nat) (a : α) : t.setP a (path i) = t.set i a := setP_pathF a t i i (Nat.le_refl _)

def consO (a : AV) : Option (List AV) → Option (List AV)
  | some l => some (a :: l)
  | none => none
noncomputable def takeX (l : List AV) : Nat → Option (List AV) :=
  List.rec (motive := fun _ => Nat → Option (List AV)) (fun n => Nat.rec (motive := fun _ => Option (List AV)) (some []) (fun _ _ => none) n)
    (fun a _ ih n => Nat.rec (motive := fun _ => Option (List AV)) (some []) (fun m _ => consO a (ih m)) n) l
theorem takeX_eq : ∀ (l : List AV) (n : Nat), takeX l n = if n ≤ l.length then some (l.take n) else none
  | [], 0 => rfl
  | [], n + 1 => by
    show none = _
    rw [if_neg (by simp)]
  | a :: l, 0 => rfl
  | a :: l, n + 1 => by
    show consO a (takeX l n) = _
    rw [takeX_eq l n]
    by_cases h : n ≤ l.length
    · rw [if_pos h, if_pos (by simp; omega)]; rfl
    · rw [if_neg h, if_neg (by simp; omega)]; rfl
noncomputable def readX (l : List AV) : Nat → Nat → Option (List AV) :=
  List.rec (motive := fun _ => Nat → Nat → Option (List AV)) (fun off n => Nat.rec (motive := fun _ => Option (List AV)) (some []) (fun _ _ => none) (Nat.add off n))
    (fun a l ih off n => Nat.rec (motive := fun _ => Option (List AV)) (takeX (a :: l) n) (fun m _ => ih m n) off) l
theorem readX_if : ∀ (l : List AV) (off n : Nat), readX l off n = if off + n ≤ l.length then some ((l.drop off).take n) else none
  | [], off, n => by
    show Nat.rec (motive := fun _ => Option (List AV)) (some []) (fun _ _ => none) (off + n) = _
    cases h : off + n with
    | zero => rw [if_pos (by simp)]; simp; rfl
    | succ m => rw [if_neg (by simp)]
  | a :: l, 0, n => by
    show takeX (a :: l) n = _
    rw [takeX_eq]
    simp
  | a :: l, off + 1, n => by
    show readX l off n = _
    rw [readX_if l off n]
    simp only [List.length_cons, List.drop_succ_cons]
    by_cases h : off + n ≤ l.length
    · rw [if_pos h, if_pos (by omega)]
    · rw [if_neg h, if_neg (by omega)]
theorem readX_eq (l : List AV) (off n : Nat) : readX l off n = readL l off n := by
  rw [readX_if]
  unfold readL
  by_cases h : off + n ≤ l.length
  · rw [if_pos h, Nat.ble_eq_true_of_le h]
  · rw [if_neg h]
    cases hb : Nat.ble (off + n) l.length with
    | false => rfl
    | true => exact absurd (Nat.le_of_ble_eq_true hb) h
noncomputable def overX (vs : List AV) : List AV → Option (List AV) :=
  List.rec (motive := fun _ => List AV → Option (List AV)) (fun l => some l) (fun v _ ih l => List.rec (motive := fun _ => Option (List AV)) none (fun _ l' _ => consO v (ih l')) l) vs
theorem overX_eq : ∀ (vs l : List AV), overX vs l = if vs.length ≤ l.length then some (vs ++ l.drop vs.length) else none
  | [], l => by
    show some l = _
    simp
  | v :: vs, [] => by
    show none = _
    simp
  | v :: vs, a :: l => by
    show consO v (overX vs l) = _
    rw [overX_eq vs l]
    by_cases h : vs.length ≤ l.length
    · rw [if_pos h, if_pos (by simp; omega)]; simp [consO]
    · rw [if_neg h, if_neg (by simp; omega)]; rfl
noncomputable def writeX (vs : List AV) (l : List AV) : Nat → Option (List AV) :=
  List.rec (motive := fun _ => Nat → Option (List AV)) (fun off => Nat.rec (motive := fun _ => Option (List AV)) (overX vs []) (fun _ _ => none) off)
    (fun a l ih off => Nat.rec (motive := fun _ => Option (List AV)) (overX vs (a :: l)) (fun m _ => consO a (ih m)) off) l
theorem writeX_if (vs : List AV) : ∀ (l : List AV) (off : Nat), writeX vs l off = if off + vs.length ≤ l.length then some (writeL l off vs) else none
  | [], 0 => by
    show overX vs [] = _
    rw [overX_eq]
    simp [writeL]
  | [], off + 1 => by
    show none = _
    rw [if_neg (fun h => by simp only [List.length_nil] at h; omega)]
  | a :: l, 0 => by
    show overX vs (a :: l) = _
    rw [overX_eq]
    simp [writeL]
  | a :: l, off + 1 => by
    show consO a (writeX vs l off) = _
    rw [writeX_if vs l off]
    by_cases h : off + vs.length ≤ l.length
    · rw [if_pos h, if_pos (by simp; omega)]
      simp [consO, writeL, show off + 1 + vs.length = (off + vs.length) + 1 by omega]
    · rw [if_neg h, if_neg (by simp; omega)]; rfl

noncomputable def St.readX (s : St) (b off n : Nat) : Option (List AV) :=
  match Nat.blt b s.n with
  | false => none
  | true => match s.h.getP (path b) with
    | some (.cells _ _ cs) => Go.Den.readX cs off n
    | _ => none
theorem St.readX_eq (s : St) (b off n : Nat) : s.readX b off n = s.read b off n := by
  unfold St.readX St.read St.get
  rw [getP_eq]
  cases Nat.blt b s.n with
  | false => rfl
  | true =>
    simp only
    cases s.h.get b with
    | none => rfl
    | some e => cases e <;> simp only [Go.Den.readX_eq]
noncomputable def wrote1 (s : St) (b : Nat) (fam : Option (Nat × Nat)) (off k : Nat) (cs : List AV) : Option St :=
  match fam with
  | none => some { s with h := s.h.setP (.cells false none cs) (path b) }
  | some (r, base) =>
    match s.get r with
    | some (.fam ms) =>
      match poison b (base + off) (base + off + k) ms s.h with
      | (ms', h') => some { s with h := (h'.set r (.fam ms')).setP (.cells false (some (r, base)) cs) (path b) }
    | _ => none
noncomputable def wrote2 (s : St) (b : Nat) (fam : Option (Nat × Nat)) (off k : Nat) (x : Option (List AV)) : Option St :=
  match x with
  | some cs => wrote1 s b fam off k cs
  | none => none
noncomputable def St.writeX (s : St) (b off : Nat) (vs : List AV) : Option St :=
  match s.h.getP (path b) with
  | some (.cells ro fam cs) => match ro with
    | true => none
    | false => match scalars vs with
      | false => none
      | true => wrote2 s b fam off vs.length (Go.Den.writeX vs cs off)
  | _ => none
theorem St.writeX_eq (s : St) (b off : Nat) (vs : List AV) : s.writeX b off vs = s.write b off vs := by
  unfold St.writeX St.write St.get
  rw [getP_eq]
  cases s.h.get b with
  | none => rfl
  | some e =>
    cases e with
    | fam => rfl
    | dead => rfl
    | cells ro fam cs =>
      cases ro with
      | true => rfl
      | false =>
        simp only
        rw [writeX_if]
        cases hs : scalars vs with
        | false => simp
        | true =>
          simp only [Bool.and_true]
          by_cases h : off + vs.length ≤ cs.length
          · rw [if_pos h, Nat.ble_eq_true_of_le h]
            simp only [wrote2, wrote1, setP_eq]
            rfl
          · rw [if_neg h]
            cases hb : Nat.ble (off + vs.length) cs.length with
            | false => rfl
            | true => exact absurd (Nat.le_of_ble_eq_true hb) h

noncomputable def forceN {α : Type} (n : Nat) (k : Nat → α) : α := Nat.rec (motive := fun _ => α) (k 0) (fun m _ => k (Nat.succ m)) n
theorem forceN_eq {α : Type} (n : Nat) (k : Nat → α) : forceN n k = k n := by cases n <;> rfl
noncomputable def newOpenF (st : St) (len m sz : Nat) (cs : List AV) : Option (AV × St) :=
  forceN st.n fun n => some (.sl (some (n, 0)) (len + m) (.more (len + m) sz), { h := (st.h.setP (.cells false (some (Nat.succ n, 0)) cs) (path n)).setP (.fam [n]) (path (Nat.succ n)), n := Nat.succ (Nat.succ n) })
theorem newOpenF_eq (st : St) (len m sz : Nat) (cs : List AV) : newOpenF st len m sz cs = some (.sl (some (st.n, 0)) (len + m) (.more (len + m) sz), st.newOpen cs) := by
  unfold newOpenF
  rw [forceN_eq, setP_eq, setP_eq]
  rfl
noncomputable def sourceF (st : St) (sz n : Nat) : AV → Option (List AV)
  | .sl (some (b, off)) len _ => match Nat.ble n len with
    | true => st.readX b off (n * sz)
    | false => none
  | .sl none _ _ => match n with
    | 0 => some []
    | _ => none
  | .str s => match Nat.ble n s.length with
    | true => some ((s.take n).map fun b => .int .u8 b.toNat)
    | false => none
  | _ => none
theorem sourceF_eq (st : St) (sz n : Nat) (v : AV) : sourceF st sz n v = sourceA st sz n v := by
  unfold sourceF sourceA
  simp only [St.readX_eq]
  rfl
noncomputable def appendF (P : Program) (st : St) (e : TypeId) (s x : AV) : Option (AV × St) :=
  match s, sizeA P e, bytesA P e, lenA x with
  | .sl a len cap, some sz, some by_, some m =>
    match Nat.blt 0 by_ && Nat.ble ((3 * (len + m) + 2000) * by_) 281474976710656 with
    | false => none
    | true =>
    match sourceF st sz m x with
    | none => none
    | some new =>
      match Nat.beq new.length (m * sz) && scalars new with
      | false => none
      | true =>
      match (match cap with | .known c => Nat.ble (len + m) c | .more lb s' => Nat.beq s' sz && Nat.ble (len + m) lb) with
      | true =>   -- there is room, surely
        match a with
        | none => some (.sl none (len + m) cap, st)
        | some (b, off) => match new with
          | [] => some (.sl (some (b, off)) (len + m) cap, st)
          | _ => match st.writeX b (off + len * sz) new with
            | some st' => some (.sl (some (b, off)) (len + m) cap, st')
            | none => none
      | false =>
        match cap with
        | .known _ =>   -- there is none
          match sourceF st sz len s with
          | none => none
          | some old => match zeroA P e with
            | none => none
            | some z => match Nat.beq z.cells.length sz && Nat.beq old.length (len * sz) with
              | true => newOpenF st len m sz (old ++ new)
              | false => none
        | .more _ s' =>   -- there may be
          match Nat.beq s' sz, a with
          | true, some (b, off) =>
            match st.get b with
            | some (.cells false (some (r, base)) cs) =>
              match st.get r, readX cs off (len * sz), zeroA P e with
              | some (.fam ms), some old, some z =>
                match Nat.beq z.cells.length sz with
                | false => none
                | true =>
                match poison st.n (base + off + len * sz) (base + off + len * sz + m * sz) ms st.h with
                | (ms', h') => some (.sl (some (st.n, 0)) (len + m) (.more (len + m) sz),
                    { h := (h'.set r (.fam (st.n :: ms'))).set st.n (.cells false (some (r, base + off)) (old ++ new)), n := st.n + 1 })
              | _, _, _ => none
            | _ => none
          | _, _ => none
  | _, _, _, _ => none
noncomputable def copyF (P : Program) (st : St) (e : TypeId) (d s : AV) : Option (AV × St) :=
  match d, sizeA P e, lenA s with
  | .sl a len _, some sz, some m =>
    match sourceF st sz (Nat.min m len) s with
    | none => none
    | some cs => match a with
      | none => some (.int .i64 (Nat.min m len), st)
      | some (b, off) => match cs with
        | [] => some (.int .i64 (Nat.min m len), st)
        | _ => match st.writeX b off cs with
          | some st' => some (.int .i64 (Nat.min m len), st')
          | none => none
  | _, _, _ => none
noncomputable def clearF (P : Program) (st : St) (e : TypeId) (x : AV) : Option (AV × St) :=
  match x, zeroA P e, sizeA P e with
  | .sl _ 0 _, _, _ => some (.tup [], st)
  | .sl (some (b, off)) len _, some z, some sz => match Nat.beq z.cells.length sz && Nat.blt 0 sz with
    | true => match st.writeX b off (timesL len z.cells) with
      | some st' => some (.tup [], st')
      | none => none
    | false => none
  | _, _, _ => none

theorem appendF_eq (P : Program) (st : St) (e : TypeId) (s x : AV) : appendF P st e s x = appendA P st e s x := by
  unfold appendF appendA
  simp only [St.writeX_eq, sourceF_eq, readX_eq, newOpenF_eq]
  rfl
theorem copyF_eq (P : Program) (st : St) (e : TypeId) (d s : AV) : copyF P st e d s = copyA P st e d s := by
  unfold copyF copyA
  simp only [St.writeX_eq, sourceF_eq]
  rfl
theorem clearF_eq (P : Program) (st : St) (e : TypeId) (x : AV) : clearF P st e x = clearA P st e x := by
  unfold clearF clearA
  simp only [St.writeX_eq]
  rfl

/- ### Operations -/
def ret1 (st : St) : Option AV → Option (AV × St)
  | some v => some (v, st)
  | none => none
noncomputable def alloc2 (st : St) (n : Nat) : Option (AV × List AV) → Option (AV × St)
  | some (v, cs) => some (v, { h := st.h.setP (.cells false none cs) (path n), n := Nat.succ n })
  | none => none
noncomputable def alloc1 (st : St) (f : Nat → Option (AV × List AV)) : Option (AV × St) := forceN st.n fun n => alloc2 st n (f n)
theorem alloc1_eq (st : St) (f : Nat → Option (AV × List AV)) : alloc1 st f = match f st.n with | some (v, cs) => some (v, st.new cs) | none => none := by
  unfold alloc1
  rw [forceN_eq]
  cases f st.n with
  | none => rfl
  | some x => simp only [alloc2, setP_eq]; rfl
noncomputable def read1 (st : St) : Option (Nat × Nat × Nat × Made) → Option (AV × St)
  | some (b, off, n, mk) => match st.readX b off n with
    | some l => match madeA mk l with
      | some v => some (v, st)
      | none => none
    | none => none
  | none => none
def load1 (P : Program) (t : TypeId) : Option AV → Option (Nat × Nat × Nat × Made)
  | some (.ptr (some (b, off))) => match isAggA P t, sizeA P t with
    | some true, some n => some (b, off, n, .agg)
    | some false, some _ => some (b, off, 1, .one)
    | _, _ => none
  | _ => none
noncomputable def store1 (P : Program) (t : TypeId) (st : St) (a x : Option AV) : Option (AV × St) :=
  match a, x, sizeA P t with
  | some (.ptr (some (b, off))), some v, some n => match Nat.beq v.cells.length n with
    | true => match st.writeX b off v.cells with
      | some st' => some (undefA, st')
      | none => none
    | false => none
  | _, _, _ => none
def pick1 (c a b : Option AV) : Option AV :=
  match c with
  | some (.bool true) => a
  | some (.bool false) => b
  | _ => none
noncomputable def getO {α : Type} (l : List α) : Nat → Option α :=
  List.rec (motive := fun _ => Nat → Option α) (fun _ => none) (fun a _ ih i => Nat.rec (motive := fun _ => Option α) (some a) (fun j _ => ih j) i) l
theorem getO_eq {α : Type} : ∀ (l : List α) (i : Nat), getO l i = l[i]?
  | [], i => by show none = _; simp
  | a :: l, 0 => rfl
  | a :: l, i + 1 => by show getO l i = _; rw [getO_eq l i]; simp
noncomputable def lenR {α : Type} (l : List α) : Nat := List.rec (motive := fun _ => Nat) 0 (fun _ _ ih => Nat.succ ih) l
theorem lenR_eq {α : Type} : ∀ (l : List α), lenR l = l.length
  | [] => rfl
  | a :: l => by show Nat.succ (lenR l) = _; rw [lenR_eq l]; rfl
noncomputable def fill2 (cs : List AV) (size : Nat) (x : Option (List AV)) (ih : List AV → Option (List AV)) : Option (List AV) :=
  match Nat.beq (lenR cs) size with
  | true => match x with
    | some cs => ih cs
    | none => none
  | false => none
noncomputable def fill1 (at_ : Option (Nat × Nat)) (cs cells : List AV) (ih : List AV → Option (List AV)) : Option (List AV) :=
  match at_ with
  | none => none
  | some (off, size) => fill2 cs size (Go.Den.writeX cs cells off) ih
noncomputable def fillF (place : Nat → Option (Nat × Nat)) (cells : List AV) (parts : List (Nat × AV)) : Option (List AV) :=
  List.rec (motive := fun _ => List AV → Option (List AV)) (fun cells => some cells)
    (fun p _ ih cells => Prod.rec (motive := fun _ => Option (List AV)) (fun i v => fill1 (place i) v.cells cells ih) p) parts cells
theorem fillF_eq (place : Nat → Option (Nat × Nat)) : ∀ (parts : List (Nat × AV)) (cells : List AV), fillF place cells parts = fillA place cells parts
  | [], cells => rfl
  | (i, v) :: rest, cells => by
    show fill1 (place i) v.cells cells (fun cells => fillF place cells rest) = _
    simp only [fill1, fill2, fillA, lenR_eq]
    cases place i with
    | none => rfl
    | some x =>
      obtain ⟨off, size⟩ := x
      simp only
      cases hb : Nat.beq v.cells.length size with
      | false => simp
      | true =>
        simp only [Bool.true_and]
        rw [writeX_if]
        by_cases h : off + v.cells.length ≤ cells.length
        · rw [if_pos h, Nat.ble_eq_true_of_le h]
          exact fillF_eq place rest _
        · rw [if_neg h]
          cases hb : Nat.ble (off + v.cells.length) cells.length with
          | false => rfl
          | true => exact absurd (Nat.le_of_ble_eq_true hb) h
noncomputable def build2 (P : Program) (t : TypeId) (parts : List (Nat × AV)) : Option AV :=
  match zeroA P t with
  | none => none
  | some z =>
    match P.underlying t with
    | some (.struct fields) => match placesA P fields.toList with
      | none => none
      | some pl => match fillF (fun i => getO pl i) z.cells parts with
        | some cs => some (.agg cs)
        | none => none
    | some (.array _ e) => match sizeA P e with
      | none => none
      | some n => match fillF (fun i => some (i * n, n)) z.cells parts with
        | some cs => some (.agg cs)
        | none => none
    | _ => none
theorem build2_eq (P : Program) (t : TypeId) (parts : List (Nat × AV)) : build2 P t parts = buildA P t parts := by
  unfold build2 buildA
  simp only [fillF_eq, getO_eq]
  rfl
noncomputable def build1 (P : Program) (t : TypeId) : Option (List (Nat × AV)) → Option AV
  | some l => build2 P t l
  | none => none
def nil1 : Option AV → Option AV
  | some (.ptr (some a)) => some (.ptr (some a))
  | some (.fn (.func f) first caps) => some (.fn (.func f) first caps)
  | _ => none
def un1 (op : UnOp) : Option AV → Option AV
  | some a => unA op a
  | none => none
def conv1 (P : Program) (src dst : TypeId) : Option AV → Option AV
  | some a => convA P src dst a
  | none => none
def bytes1 (P : Program) (e : TypeId) (x : Option AV) : Option (Nat × Nat × Nat × Made) :=
  match P.underlying e, x with
  | some (.int .u8), some (.sl (some (b, off)) len _) => some (b, off, len, .bytes)
  | _, _ => none
noncomputable def convE (P : Program) (st : St) (src dst : TypeId) (x : Option AV) : Option (AV × St) :=
  match P.underlying src, P.underlying dst with
  | some (.slice e), some .string => read1 st (bytes1 P e x)
  | some .string, some (.slice _) => none
  | _, _ => ret1 st (conv1 P src dst x)
def mkfn1 (f : Fn) (l c : Option (List AV)) : Option AV :=
  match f with
  | .func f => match l, c with
    | some l, some c => some (.fn (.func f) l c)
    | _, _ => none
  | _ => none
def slice1 (P : Program) (t : TypeId) (x : Option AV) (lo hi mx : Option (Option AV)) : Option AV :=
  match x, lo, hi, mx with
  | some a, some l, some h, some m => sliceA P t a l h m
  | _, _, _, _ => none
def fa1 (P : Program) (t : TypeId) (f : Nat) : Option AV → Option AV
  | some a => fieldAddrA P t a f
  | none => none
def fd1 (P : Program) (t : TypeId) (f : Nat) : Option AV → Option AV
  | some a => fieldA P t a f
  | none => none
def ia1 (P : Program) (t : TypeId) (x i : Option AV) : Option AV :=
  match x with
  | none => none
  | some a => match i with
    | none => none
    | some i => idxA2 P t a i
def ix1 (P : Program) (t : TypeId) (x i : Option AV) : Option AV :=
  match x with
  | none => none
  | some a => match i with
    | none => none
    | some i => indexA P t a i
def ext1 (i : Nat) : Option AV → Option AV
  | some (.tup vs) => vs[i]?
  | _ => none
def len1 (P : Program) (t : TypeId) (x : Option AV) : Option AV :=
  match x, P.underlying t with
  | some (.str s), some .string => some (.int .i64 s.length)
  | some (.sl _ n _), some (.slice _) => some (.int .i64 n)
  | some _, some (.array n _) => some (.int .i64 n)
  | _, _ => none
def cap1 (P : Program) (t : TypeId) (x : Option AV) : Option AV :=
  match x, P.underlying t with
  | some (.sl _ _ (.known c)), some (.slice _) => some (.int .i64 c)
  | _, _ => none
def mm1 (mx : Bool) : Option (List AV) → Option AV
  | some l => minmaxA mx l
  | none => none
def box1 (n : Nat) : Option AV → Option (AV × List AV)
  | some v => some (.ptr (some (n, 0)), v.cells)
  | none => none
def new1 (P : Program) (n : Nat) (t : TypeId) : Option (AV × List AV) :=
  match zeroA P t with
  | some z => some (.ptr (some (n, 0)), z.cells)
  | none => none
noncomputable def bslice1 (P : Program) (n : Nat) (t : TypeId) (len : Nat) (parts : Option (List (Nat × AV))) : Option (AV × List AV) :=
  match P.underlying t, parts with
  | some (.slice e), some l => match sizeA P e with
    | some sz => match Nat.ble (len * sz) 16777216 with
      | false => none
      | true =>
        match (match Nat.beq (len * sz) 0 with | true => some [] | false => match zeroA P e with | some z => (match Nat.beq z.cells.length sz with | true => some (timesL len z.cells) | false => none) | none => none : Option (List AV)) with
        | none => none
        | some z => match fillF (fun i => some (i * sz, sz)) z l with
          | some cs => some (.sl (some (n, 0)) len (.known len), cs)
          | none => none
    | none => none
  | _, _ => none
def mslice1 (P : Program) (n : Nat) (t : TypeId) (l c : Option AV) : Option (AV × List AV) :=
  match P.underlying t, l, c with
  | some (.slice e), some (.int _ l), some (.int _ c) => match sizeA P e, bytesA P e with
    | some sz, some by_ =>
      match decide (0 ≤ l) && decide (l ≤ c) && decide (c ≤ 9223372036854775807) && decide ((by_ : Int) * c ≤ 140737488355328) with
      | false => none
      | true => match (match Nat.beq (c.toNat * sz) 0 with | true => some [] | false => match zeroA P e with | some z => (match Nat.beq z.cells.length sz with | true => some (timesL c.toNat z.cells) | false => none) | none => none : Option (List AV)) with
        | none => none
        | some z => some (.sl (some (n, 0)) l.toNat (.known c.toNat), z)
    | _, _ => none
  | _, _, _ => none
noncomputable def append1 (P : Program) (st : St) (t u : TypeId) (s x : Option AV) : Option (AV × St) :=
  match P.underlying t, P.underlying u, s, x with
  | some (.slice e), some (.slice _), some s, some x => appendF P st e s x
  | some (.slice e), some .string, some s, some x => appendF P st e s x
  | _, _, _, _ => none
noncomputable def copy1 (P : Program) (st : St) (t : TypeId) (d s : Option AV) : Option (AV × St) :=
  match P.underlying t, d, s with
  | some (.slice e), some d, some s => copyF P st e d s
  | _, _, _ => none
noncomputable def clear1 (P : Program) (st : St) (t : TypeId) (x : Option AV) : Option (AV × St) :=
  match P.underlying t, x with
  | some (.slice e), some x => clearF P st e x
  | _, _ => none
def value1 (P : Program) (call : CallA) (st : St) (f : Option AV) (args : Option (List AV)) : Option (AV × St) :=
  match f, args with
  | some (.fn (.func g) first caps), some l =>
    match P.funcs[g]? with
    | some fn => match fn.body with
      | some _ => call g (first ++ l ++ caps) st
      | none => match externA fn.name (first ++ l ++ caps) with
        | some v => some (v, st)
        | none => none
    | none => none
  | _, _ => none
noncomputable def builtinE (P : Program) (ev : Operand → Option AV) (st : St) (b : Builtin) (args : List Operand) (ts : List TypeId) : Option (AV × St) :=
  match b with
  | .len => match args, ts with
    | [x], [t] => ret1 st (len1 P t (ev x))
    | _, _ => none
  | .cap => match args, ts with
    | [x], [t] => ret1 st (cap1 P t (ev x))
    | _, _ => none
  | .max => ret1 st (mm1 true (evsE ev args))
  | .min => ret1 st (mm1 false (evsE ev args))
  | .append => match args, ts with
    | [s, x], [t, u] => append1 P st t u (ev s) (ev x)
    | _, _ => none
  | .copy => match args, ts with
    | [d, s], [t, _] => copy1 P st t (ev d) (ev s)
    | _, _ => none
  | .clear => match args, ts with
    | [x], [t] => clear1 P st t (ev x)
    | _, _ => none
  | _ => none
noncomputable def callE (P : Program) (call : CallA) (ev : Operand → Option AV) (st : St) (c : Call) : Option (AV × St) :=
  match c.callee with
  | .value f => value1 P call st (ev f) (evsE ev c.args.toList)
  | .builtin b => builtinE P ev st b c.args.toList c.argTypes.toList
  | _ => none
noncomputable def opE (P : Program) (call : CallA) (ev : Operand → Option AV) (st : St) (o : Op) : Option (AV × St) :=
  match o with
  | .move x => ret1 st (ev x)
  | .assign x => ret1 st (ev x)
  | .pick c a b => ret1 st (pick1 (ev c) (ev a) (ev b))
  | .alloc t => alloc1 st (fun n => new1 P n t)
  | .box _ x => alloc1 st (fun n => box1 n (ev x))
  | .build t parts => ret1 st (build1 P t (evPartsE ev parts.toList))
  | .buildSlice t len parts => alloc1 st (fun n => bslice1 P n t len (evPartsE ev parts.toList))
  | .load t x => read1 st (load1 P t (ev x))
  | .store t a x => store1 P t st (ev a) (ev x)
  | .nilCheck x => ret1 st (nil1 (ev x))
  | .binOp op t x y _ => ret1 st (bin1 P op t (ev x) (ev y))
  | .unOp op _ x => ret1 st (un1 op (ev x))
  | .convert src dst x => convE P st src dst (ev x)
  | .makeFunc f first captured => ret1 st (mkfn1 f (evsE ev first.toList) (evsE ev captured.toList))
  | .makeSlice t l c => alloc1 st (fun n => mslice1 P n t (ev l) (ev c))
  | .slice t x lo hi mx => ret1 st (slice1 P t (ev x) (evOptE ev lo) (evOptE ev hi) (evOptE ev mx))
  | .fieldAddr t x f => ret1 st (fa1 P t f (ev x))
  | .field t x f => ret1 st (fd1 P t f (ev x))
  | .indexAddr t x ix => ret1 st (ia1 P t (ev x) (ev ix))
  | .index t x ix => ret1 st (ix1 P t (ev x) (ev ix))
  | .extract x i => ret1 st (ext1 i (ev x))
  | .call c => callE P call ev st c
  | _ => none

theorem opE_eq (P : Program) (call : CallA) (tmps : List AV) (st : St) (o : Op) : opE P call (evA tmps) st o = opA P call tmps st o := by
  cases o with
  | binOp op t x y u =>
    simp only [opE, opA, clsOf, pureA, bin1]
    cases evA tmps x <;> cases evA tmps y <;> simp only [bin2_eq] <;> rfl
  | indexAddr t x ix =>
    simp only [opE, opA, clsOf, pureA, ia1]
    cases evA tmps x <;> cases evA tmps ix <;> simp only [idxA2_eq] <;> rfl
  | build t parts =>
    simp only [opE, opA, clsOf, pureA, evPartsE_eq, build1]
    cases evPartsA tmps parts.toList with
    | none => rfl
    | some l => simp only [build2_eq]; rfl
  | alloc t => simp only [opE, alloc1_eq]; rfl
  | box t x => simp only [opE, alloc1_eq]; rfl
  | makeSlice t l c => simp only [opE, alloc1_eq]; rfl
  | load t x => simp only [opE, read1, St.readX_eq]; rfl
  | store t a x => simp only [opE, store1, St.writeX_eq]; rfl
  | buildSlice t len parts => simp only [opE, evPartsE_eq, alloc1_eq, bslice1, fillF_eq]; rfl
  | slice t x lo hi mx => simp only [opE, evOptE_eq]; rfl
  | makeFunc f first captured => simp only [opE, evsE_eq]; cases f <;> rfl
  | index t x ix =>
    simp only [opE, opA, clsOf, pureA, ix1]
    cases evA tmps x <;> cases evA tmps ix <;> rfl
  | convert src dst x =>
    simp only [opE, convE]
    split
    · rename_i e h1 h2
      simp only [opA, clsOf, h1, h2, readA, bytes1, read1, St.readX_eq]
      try rfl
    · rename_i e h1 h2
      simp only [opA, clsOf, h1, h2, effA]
    · rename_i h1 h2
      have hc : clsOf P (.convert src dst x) = .pure := by
        simp only [clsOf]
      simp only [opA, hc]
      rfl
  | call c =>
    obtain ⟨callee, args, ts⟩ := c
    obtain ⟨args⟩ := args
    obtain ⟨ts⟩ := ts
    cases callee with
    | value f => simp only [opE, callE, evsE_eq]; rfl
    | invoke r m => rfl
    | builtin b =>
      cases b with
      | max => simp only [opE, callE, builtinE, evsE_eq]; rfl
      | min => simp only [opE, callE, builtinE, evsE_eq]; rfl
      | len => rcases args with _ | ⟨x, _ | ⟨y, r⟩⟩ <;> rcases ts with _ | ⟨u, _ | ⟨v, q⟩⟩ <;> rfl
      | cap => rcases args with _ | ⟨x, _ | ⟨y, r⟩⟩ <;> rcases ts with _ | ⟨u, _ | ⟨v, q⟩⟩ <;> rfl
      | clear => rcases args with _ | ⟨x, _ | ⟨y, r⟩⟩ <;> rcases ts with _ | ⟨u, _ | ⟨v, q⟩⟩ <;> first | rfl | (simp only [opE, callE, builtinE, clear1, clearF_eq]; rfl)
      | append => rcases args with _ | ⟨x, _ | ⟨y, _ | ⟨z, r⟩⟩⟩ <;> rcases ts with _ | ⟨u, _ | ⟨v, _ | ⟨w, q⟩⟩⟩ <;> first | rfl | (simp only [opE, callE, builtinE, append1, copy1, appendF_eq, copyF_eq]; rfl)
      | copy => rcases args with _ | ⟨x, _ | ⟨y, _ | ⟨z, r⟩⟩⟩ <;> rcases ts with _ | ⟨u, _ | ⟨v, _ | ⟨w, q⟩⟩⟩ <;> first | rfl | (simp only [opE, callE, builtinE, append1, copy1, appendF_eq, copyF_eq]; rfl)
      | _ => rfl
  | _ => rfl

/- ### Regions -/
noncomputable def guardF (ops : Array Oper) (t : T) (o : Oper) : Bool :=
  match o.guard with
  | none => true
  | some (j, want) => match ops[j]? with
    | some g => match g.dst with
      | some d => match t.get (path d) with
        | .bool b => b == want
        | _ => false
      | none => false
    | none => false
theorem guardF_eq {t : T} {l : List AV} (h : Rt t l) (ops : Array Oper) (o : Oper) : guardF ops t o = guardA ops l o := by
  unfold guardF guardA
  cases o.guard with
  | none => rfl
  | some x =>
    obtain ⟨j, want⟩ := x
    simp only
    cases ops[j]? with
    | none => rfl
    | some g =>
      simp only
      cases g.dst with
      | none => rfl
      | some d =>
        simp only
        rw [h d]
        simp only [List.getD]
        cases l[d]? with
        | none => rfl
        | some v => cases v <;> rfl
noncomputable def putF (n : Nat) (t : T) : Option Tmp → AV → Option T
  | none, _ => some t
  | some d, v => match Nat.blt d n with
    | true => some (t.set v (path d))
    | false => none
theorem putF_some {n : Nat} {t t' : T} {l : List AV} {d : Option Tmp} {v : AV} (h : Rt t l) (hn : l.length = n) (e : putF n t d v = some t') : Rt t' (putA l d v) ∧ (putA l d v).length = n := by
  cases d with
  | none => simp only [putF] at e; cases e; exact ⟨h, hn⟩
  | some d =>
    simp only [putF] at e
    split at e
    · rename_i hd
      have := Nat.le_of_ble_eq_true hd
      cases e
      exact ⟨h.set (by omega) v, by simp [putA, hn]⟩
    · cases e
noncomputable def put2 (n : Nat) (t : T) (d : Option Tmp) : Option (AV × St) → Option (T × St)
  | some (v, st) => match putF n t d v with
    | some t' => some (t', st)
    | none => none
  | none => none
noncomputable def stepF (P : Program) (call : CallA) (ops : Array Oper) (n : Nat) (o : Oper) (t : T) (st : St) : Option (T × St) :=
  match guardF ops t o with
  | false => put2 n t o.dst (some (undefA, st))
  | true => put2 n t o.dst (opE P call (evF t) st o.op)
theorem stepF_some {P : Program} {call : CallA} {ops : Array Oper} {n : Nat} {o : Oper} {t t' : T} {st st' : St} {l : List AV} (h : Rt t l) (hn : l.length = n) (e : stepF P call ops n o t st = some (t', st')) :
    ∃ l', stepA P call ops o l st = some (l', st') ∧ Rt t' l' ∧ l'.length = n := by
  unfold stepF at e
  rw [guardF_eq h, evF_eq h, opE_eq] at e
  unfold stepA
  cases hg : guardA ops l o with
  | false =>
    rw [hg] at e
    simp only [put2] at e
    split at e
    · rename_i t1 ht
      cases e
      obtain ⟨h1, h2⟩ := putF_some h hn ht
      exact ⟨_, rfl, h1, h2⟩
    · cases e
  | true =>
    rw [hg] at e
    cases hop : opA P call l st o.op with
    | none => rw [hop] at e; cases e
    | some x =>
      obtain ⟨v, st1⟩ := x
      rw [hop] at e
      simp only [put2] at e
      split at e
      · rename_i t1 ht
        cases e
        obtain ⟨h1, h2⟩ := putF_some h hn ht
        exact ⟨_, rfl, h1, h2⟩
      · cases e
noncomputable def opsF (P : Program) (call : CallA) (ops : Array Oper) (n : Nat) (os : List Oper) : T → St → Option (T × St) :=
  List.rec (motive := fun _ => T → St → Option (T × St)) (fun t st => some (t, st))
    (fun o _ ih t st => Option.rec (motive := fun _ => Option (T × St)) none (fun x => Prod.rec (motive := fun _ => Option (T × St)) (fun t' st' => ih t' st') x) (stepF P call ops n o t st)) os
theorem opsF_some {P : Program} {call : CallA} {ops : Array Oper} {n : Nat} : ∀ (os : List Oper) {t t' : T} {st st' : St} {l : List AV}, Rt t l → l.length = n → opsF P call ops n os t st = some (t', st') →
    ∃ l', opsA P call ops os l st = some (l', st') ∧ Rt t' l' ∧ l'.length = n
  | [], t, t', st, st', l, h, hn, e => by
    cases e
    exact ⟨l, rfl, h, hn⟩
  | o :: os, t, t', st, st', l, h, hn, e => by
    have e' : (Option.rec (motive := fun _ => Option (T × St)) none (fun x => Prod.rec (motive := fun _ => Option (T × St)) (fun t' st' => opsF P call ops n os t' st') x) (stepF P call ops n o t st)) = some (t', st') := e
    cases hs : stepF P call ops n o t st with
    | none => rw [hs] at e'; cases e'
    | some x =>
      obtain ⟨t1, st1⟩ := x
      rw [hs] at e'
      obtain ⟨l1, h1, h2, h3⟩ := stepF_some h hn hs
      obtain ⟨l2, h4, h5, h6⟩ := opsF_some os h2 h3 e'
      exact ⟨l2, by simp only [opsA, h1]; exact h4, h5, h6⟩
/-- The slots as a list again. -/
noncomputable def T.list (t : T) : Nat → List AV := fun n => (List.range n).map fun i => t.get (path i)
theorem Rt.list {t : T} {l : List AV} (h : Rt t l) : t.list l.length = l := by
  apply List.ext_getElem
  · simp [T.list]
  · intro i h1 h2
    simp only [T.list, List.getElem_map, List.getElem_range]
    rw [h i]
    simp [List.getD, h2]
theorem Rt.ofList (l : List AV) : Rt (T.ofL l 0 .leaf) l := by
  have := Rt.start l 0
  simpa [padA] using this
noncomputable def regionF (P : Program) (call : CallA) (n : Nat) (q : Bool) (ops : Array Oper) (draw : Bool) (t : T) (st : St) : Option (T × St) :=
  match q || !drawsA P ops draw with
  | true => opsF P call ops n ops.toList t st
  | false => match regionA P call ops draw (t.list n) st with
    | some (l, st') => match Nat.beq l.length n with
      | true => some (T.ofL l 0 .leaf, st')
      | false => none
    | none => none
theorem regionF_some {P : Program} {call : CallA} {n : Nat} {q : Bool} {ops : Array Oper} {draw : Bool} {t t' : T} {st st' : St} {l : List AV} (hq : q = true → drawsA P ops draw = false) (h : Rt t l) (hn : l.length = n) (e : regionF P call n q ops draw t st = some (t', st')) :
    ∃ l', regionA P call ops draw l st = some (l', st') ∧ Rt t' l' ∧ l'.length = n := by
  unfold regionF at e
  split at e
  · rename_i hd0
    have hd : drawsA P ops draw = false := by
      cases q with
      | true => exact hq rfl
      | false => simpa using hd0
    obtain ⟨l', h1, h2, h3⟩ := opsF_some _ h hn e
    exact ⟨l', by unfold regionA; rw [hd]; exact h1, h2, h3⟩
  · subst hn
    rw [h.list] at e
    split at e
    · rename_i l' st1 hr
      split at e
      · rename_i hl
        cases e
        exact ⟨l', hr, Rt.ofList l', Nat.eq_of_beq_eq_true hl⟩
      · cases e
    · cases e

/- ### Code, calls -/
/-- Are all regions such that the text's order will do? -/
def quietC (P : Program) : Code → Bool
  | .region _ ops draw => !drawsA P ops draw
  | .seq a b => quietC P a && quietC P b
  | .cond _ a b => quietC P a && quietC P b
  | .block _ a => quietC P a
  | .loop a => quietC P a
  | _ => true
def quietG (P : Program) (g : FuncId) : Bool :=
  match P.funcs[g]? with
  | some fn => match fn.body with
    | some c => quietC P c
    | none => true
  | none => true
def quietAllA (P : Program) (ex : List FuncId) : Bool := (List.range P.funcs.size).all fun g => ex.contains g || quietG P g
abbrev OutF := Option (Ex × T × St)
noncomputable def loopF (f : T → St → OutF) (n : Nat) : T → St → OutF :=
  Nat.rec (motive := fun _ => T → St → OutF) (fun _ _ => none) (fun _ ih t s => match f t s with
    | some (.normal, t', s') => ih t' s'
    | r => r) n
noncomputable def condF (c : Option AV) (a b : OutF) : OutF :=
  match c with
  | some (.bool true) => a
  | some (.bool false) => b
  | _ => none
noncomputable def seqF (x : OutF) (g : T → St → OutF) : OutF :=
  match x with
  | some (.normal, t', s') => g t' s'
  | r => r
noncomputable def blockF (id : Nat) (x : OutF) : OutF :=
  match x with
  | some (.exit j, t', s') => match Nat.beq j id with
    | true => some (.normal, t', s')
    | false => some (.exit j, t', s')
  | r => r
noncomputable def outF (x : Option (T × St)) : OutF :=
  match x with
  | some (t, s) => some (.normal, t, s)
  | none => none
noncomputable def codeF (P : Program) (call : CallA) (L n : Nat) (q : Bool) (c : Code) : T → St → OutF :=
  Code.rec (motive := fun _ => T → St → OutF)
    (fun t s => some (.normal, t, s))
    (fun _ ops draw t s => outF (regionF P call n q ops draw t s))
    (fun _ _ fa fb t s => seqF (fa t s) fb)
    (fun c _ _ fa fb t s => condF (evF t c) (fa t s) (fb t s))
    (fun id _ fa t s => blockF id (fa t s))
    (fun _ fa t s => loopF fa L t s)
    (fun _ _ _ _ _ _ _ _ => none)
    (fun id t s => some (.exit id, t, s))
    (fun _ _ _ _ => none)
    (fun _ t s => some (.normal, t, s))
    (fun _ _ _ => none)
    (fun t s => some (.ret, t, s))
    (fun _ _ _ => none) c
end Go.Den
