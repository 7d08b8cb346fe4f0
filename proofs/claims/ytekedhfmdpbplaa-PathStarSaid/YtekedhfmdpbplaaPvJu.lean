/- Plain: orders of rows; rows that are laid in order. -/
import Derived.Test.YtekedhfmdpbplaaPvMp
import Derived.Test.YtekedhfmdpbplaaPvO2
set_option linter.unusedSimpArgs false
set_option linter.unusedVariables false
namespace Go.Sy
open Go
/-- An order: turned about it is the other one; it goes on. -/
structure Ord3 {T : Type} (f : T → T → Int) : Prop where
  swap : ∀ a b, f b a = - f a b
  trans : ∀ a b c, f a b ≤ 0 → f b c ≤ 0 → f a c ≤ 0
theorem Ord3.zero {T : Type} {f : T → T → Int} (h : Ord3 f) {a b c : T} (h1 : f a b = 0) (h2 : f b c = 0) : f a c = 0 := by
  have k1 := h.trans a b c (by omega) (by omega)
  have s1 := h.swap a b
  have s2 := h.swap b c
  have s3 := h.swap a c
  have k2 := h.trans c b a (by omega) (by omega)
  omega
theorem Ord3.lt1 {T : Type} {f : T → T → Int} (h : Ord3 f) {a b c : T} (h1 : f a b < 0) (h2 : f b c ≤ 0) : f a c < 0 := by
  have k1 := h.trans a b c (by omega) h2
  by_cases e : f a c = 0
  · have s3 := h.swap a c
    have s1 := h.swap a b
    have := h.trans b c a h2 (by omega)
    omega
  · omega
theorem Ord3.lt2 {T : Type} {f : T → T → Int} (h : Ord3 f) {a b c : T} (h1 : f a b ≤ 0) (h2 : f b c < 0) : f a c < 0 := by
  have k1 := h.trans a b c h1 (by omega)
  by_cases e : f a c = 0
  · have s3 := h.swap a c
    have s1 := h.swap b c
    have := h.trans c a b (by omega) h1
    omega
  · omega
theorem or2_le {a b : Int} (h : or2 a b ≤ 0) : a < 0 ∨ (a = 0 ∧ b ≤ 0) := by
  unfold or2 at h
  split at h <;> omega
theorem or2_mk {a b : Int} (h : a < 0 ∨ (a = 0 ∧ b ≤ 0)) : or2 a b ≤ 0 := by
  unfold or2
  split <;> omega
theorem or2_neg (a b : Int) : or2 (-a) (-b) = - or2 a b := by
  unfold or2
  split <;> split <;> omega
theorem Ord3.lex {T : Type} {f g : T → T → Int} (hf : Ord3 f) (hg : Ord3 g) : Ord3 (fun a b => or2 (f a b) (g a b)) where
  swap a b := by simp only [hf.swap a b, hg.swap a b, or2_neg]
  trans a b c h1 h2 := by
    rcases or2_le h1 with h1 | ⟨h1, k1⟩ <;> rcases or2_le h2 with h2 | ⟨h2, k2⟩
    · exact or2_mk (.inl (hf.lt1 h1 (by omega)))
    · exact or2_mk (.inl (hf.lt1 h1 (by omega)))
    · exact or2_mk (.inl (hf.lt2 (by omega) h2))
    · exact or2_mk (.inr ⟨hf.zero h1 h2, hg.trans a b c k1 k2⟩)
theorem Ord3.neg {T : Type} {f : T → T → Int} (hf : Ord3 f) : Ord3 (fun a b => - f a b) where
  swap a b := by simp only [hf.swap a b]
  trans a b c h1 h2 := by
    have s1 := hf.swap a b
    have s2 := hf.swap b c
    have s3 := hf.swap a c
    have := hf.trans c b a (by omega) (by omega)
    show - f a c ≤ 0
    omega
theorem Ord3.pull {T U : Type} {f : T → T → Int} (hf : Ord3 f) (h : U → T) : Ord3 (fun a b => f (h a) (h b)) where
  swap a b := hf.swap _ _
  trans a b c := hf.trans _ _ _
theorem cmpD_ord : Ord3 cmpD := ⟨cmpD_swap, fun _ _ _ => cmp3_trans⟩
theorem rowD_cons (a b : D) (l m : List D) : rowD (a :: l) (b :: m) = or2 (cmpD a b) (rowD l m) := by
  by_cases h : cmpD a b = 0
  · have e1 : rowL (a :: l) (b :: m) = rowL l m := by simp [rowL, h]
    have e2 : or2 (cmpD a b) (rowD l m) = rowD l m := by simp [or2, h]
    rw [e2]
    unfold rowD
    rw [e1]
    cases rowL l m with
    | some c => rfl
    | none => simp only [List.length_cons, Nat.add_lt_add_iff_right, gt_iff_lt]
  · have e1 : rowL (a :: l) (b :: m) = some (cmpD a b) := by simp [rowL, h]
    simp [rowD, e1, or2, h]
theorem rowD_trans : ∀ a b c : List D, rowD a b ≤ 0 → rowD b c ≤ 0 → rowD a c ≤ 0
  | [], b, c, _, _ => by cases c <;> simp [rowD, rowL]
  | x :: a, [], c, h, _ => by simp [rowD, rowL] at h
  | x :: a, y :: b, [], _, h => by simp [rowD, rowL] at h
  | x :: a, y :: b, z :: c, h1, h2 => by
    rw [rowD_cons] at h1 h2 ⊢
    rcases or2_le h1 with h1 | ⟨h1, k1⟩ <;> rcases or2_le h2 with h2 | ⟨h2, k2⟩
    · exact or2_mk (.inl (cmpD_ord.lt1 h1 (by omega)))
    · exact or2_mk (.inl (cmpD_ord.lt1 h1 (by omega)))
    · exact or2_mk (.inl (cmpD_ord.lt2 (by omega) h2))
    · exact or2_mk (.inr ⟨cmpD_ord.zero h1 h2, rowD_trans a b c k1 k2⟩)
theorem rowD_ord : Ord3 rowD := ⟨rowD_swap, rowD_trans⟩
theorem cmpI_ord : Ord3 cmpI where
  swap a b := by unfold cmpI; split <;> split <;> (try split) <;> omega
  trans a b c := by unfold cmpI; split <;> split <;> split <;> (try split) <;> (try split) <;> (try split) <;> omega
/-- A row's value; nothing where it has none. -/
def atD (r : D) (i : Int) : D := if i < 0 ∨ ¬ i < ((r.fld 1).els.length : Int) then .nul else (r.fld 1).els.getD i.toNat .nul
def cmpO (o a b : D) : Int := if (o.fld 1).asBool then - cmpD (atD a (o.fld 0).asInt) (atD b (o.fld 0).asInt) else cmpD (atD a (o.fld 0).asInt) (atD b (o.fld 0).asInt)
/-- How two rows stand by a question's order. -/
def cmpQ : List D → D → D → Int
  | [], a, b => or2 (cmpI (b.fld 0).asInt (a.fld 0).asInt) (rowD (a.fld 1).els (b.fld 1).els)
  | o :: l, a, b => or2 (cmpO o a b) (cmpQ l a b)
theorem cmpO_ord (o : D) : Ord3 (cmpO o) := by
  unfold cmpO
  cases (o.fld 1).asBool with
  | true => exact (cmpD_ord.pull fun r => atD r (o.fld 0).asInt).neg
  | false => exact cmpD_ord.pull fun r => atD r (o.fld 0).asInt
theorem cmpQ_ord : ∀ l : List D, Ord3 (cmpQ l)
  | [] => (show Ord3 (fun a b : D => or2 (cmpI (b.fld 0).asInt (a.fld 0).asInt) (rowD (a.fld 1).els (b.fld 1).els)) from
      Ord3.lex (f := fun a b : D => cmpI (b.fld 0).asInt (a.fld 0).asInt) ⟨fun a b => cmpI_ord.swap _ _, fun a b c h1 h2 => cmpI_ord.trans _ _ _ h2 h1⟩ (rowD_ord.pull fun r : D => (r.fld 1).els))
  | o :: l => (cmpO_ord o).lex (cmpQ_ord l)
/-- Each stands not behind the next one. -/
def SortedL (f : D → D → Int) (l : List D) : Prop := ∀ i, i + 1 < l.length → f (l.getD i .nul) (l.getD (i + 1) .nul) ≤ 0
theorem insAt_get {l : List D} {r : D} {at' i : Nat} (h : at' ≤ l.length) : (l.take at' ++ r :: l.drop at').getD i .nul = if i < at' then l.getD i .nul else if i = at' then r else l.getD (i - 1) .nul := by
  have hl : (l.take at').length = at' := by rw [List.length_take]; omega
  simp only [List.getD_eq_getElem?_getD]
  by_cases h1 : i < at'
  · rw [if_pos h1, List.getElem?_append_left (by omega), List.getElem?_take_of_lt h1]
  · rw [if_neg h1, List.getElem?_append_right (by omega), hl]
    by_cases h2 : i = at'
    · rw [if_pos h2, h2, Nat.sub_self]; rfl
    · rw [if_neg h2, show i - at' = (i - at' - 1) + 1 by omega, List.getElem?_cons_succ, List.getElem?_drop]
      congr 2
      omega
theorem sorted_ins {f : D → D → Int} {l : List D} {r : D} {at' : Nat} (hs : SortedL f l) (h : at' ≤ l.length) (h1 : 0 < at' → f (l.getD (at' - 1) .nul) r ≤ 0) (h2 : at' < l.length → f r (l.getD at' .nul) ≤ 0) :
    SortedL f (l.take at' ++ r :: l.drop at') := by
  intro i hi
  have hl : (l.take at' ++ r :: l.drop at').length = l.length + 1 := by simp [List.length_take, List.length_drop]; omega
  rw [hl] at hi
  rw [insAt_get h, insAt_get h]
  by_cases c1 : i + 1 < at'
  · rw [if_pos (by omega), if_pos c1]; exact hs i (by omega)
  · rw [if_neg c1]
    by_cases c2 : i + 1 = at'
    · rw [if_pos (by omega), if_pos c2]
      have := h1 (by omega)
      rwa [show at' - 1 = i by omega] at this
    · rw [if_neg c2, if_neg (by omega)]
      by_cases c3 : i = at'
      · rw [if_pos c3, show i + 1 - 1 = at' by omega]
        exact h2 (by omega)
      · rw [if_neg c3]
        have := hs (i - 1) (by omega)
        rwa [show i - 1 + 1 = i + 1 - 1 by omega] at this
/- ### loops that look for the first unlike value -/
def mkR (i : Int) (l : List D) : D := .agg [.int i, .list l]
def scQ {Y : Type} (g : Int → Y) (a b : D) : Nat → D → Option (Nat × Y) := fun _ d => if cmpO d a b = 0 then none else some (0, g (cmpO d a b))
theorem scan_cmpQ {Y : Type} (g : Int → Y) (y0 : Y) (a b : D) : ∀ (o : List D) (k : Nat), scanL (scQ g a b) ((1 : Nat), y0) k o = (0, g (cmpQ o a b)) ∨ (scanL (scQ g a b) ((1 : Nat), y0) k o = (1, y0) ∧ cmpQ o a b = cmpQ [] a b)
  | [], k => .inr ⟨rfl, rfl⟩
  | d :: o, k => by
    by_cases h : cmpO d a b = 0
    · have e : scanL (scQ g a b) ((1 : Nat), y0) k (d :: o) = scanL (scQ g a b) ((1 : Nat), y0) (k + 1) o := by simp only [scanL, scQ, h, if_true]
      have e2 : cmpQ (d :: o) a b = cmpQ o a b := by simp [cmpQ, or2, h]
      rw [e, e2]
      exact scan_cmpQ g y0 a b o (k + 1)
    · have e : scanL (scQ g a b) ((1 : Nat), y0) k (d :: o) = (0, g (cmpO d a b)) := by simp only [scanL, scQ, h, if_false]
      have e2 : cmpQ (d :: o) a b = cmpO d a b := by simp [cmpQ, or2, h]
      rw [e, e2]
      exact .inl rfl
theorem cmpO_range (d a b : D) : cmpO d a b = -1 ∨ cmpO d a b = 0 ∨ cmpO d a b = 1 := by
  unfold cmpO
  have := cmpD_range (atD a (d.fld 0).asInt) (atD b (d.fld 0).asInt)
  split <;> omega
theorem neg_wrap {c : Int} (h : c = -1 ∨ c = 0 ∨ c = 1) : IntKind.i64.wrap ((0 : Int) - c) = - c := by
  rw [wrap64 (by omega) (by omega)]; omega
theorem cmpQ_nil_lt (i j : Int) (l m : List D) : decide (cmpQ [] (mkR i l) (mkR j m) < 0) = bif !decide (i = j) then decide (i > j) else decide (rowD l m < (0 : Int)) := by
  have e : cmpQ [] (mkR i l) (mkR j m) = or2 (cmpI j i) (rowD l m) := rfl
  rw [e]
  unfold or2 cmpI
  by_cases h1 : i = j
  · subst h1; simp
  · by_cases h2 : j < i
    · simp [h1, h2]
    · have h3 : i < j := by omega
      simp [h1, h2, h3]
/- ### loops that count down -/
def downQ {Y : Type} (q : Nat → Option Y) (yE : Y) : Nat → Y
  | 0 => yE
  | k + 1 => match q (k + 1) with
    | some y => y
    | none => downQ q yE k
theorem loop_down {Y : Type} {stp : Int → NT Int Y} (q : Nat → Option Y) (yE : Y) (n : Nat)
    (h : ∀ k, 0 < k → k ≤ n → (stp (k : Int)).run = match q k with
      | some y => .done y
      | none => .more ((k - 1 : Nat) : Int))
    (hE : (stp 0).run = .done yE) : ∀ k, k ≤ n → loopR stp (k : Int) = some (downQ q yE k)
  | 0, _ => by
    have hE' : (stp ((0 : Nat) : Int)).run = .done yE := hE
    rw [loopR_eq, hE']
    rfl
  | k + 1, hk => by
    rw [loopR_eq, h (k + 1) (by omega) hk]
    have ih := loop_down q yE n h hE k (by omega)
    simp only [downQ]
    cases q (k + 1) with
    | some y => rfl
    | none => exact ih
/-- Where a new one comes: behind all that it isn't ahead of. -/
def insAt (p : Nat → Bool) (n : Nat) : Nat := downQ (fun k => if p (k - 1) then none else some k) 0 n
theorem insAt_ok (p : Nat → Bool) : ∀ n, insAt p n ≤ n ∧ (0 < insAt p n → p (insAt p n - 1) = false) ∧ ∀ j, insAt p n ≤ j → j < n → p j = true
  | 0 => ⟨Nat.le_refl _, fun h => absurd h (by simp [insAt, downQ]), fun j _ h => by omega⟩
  | n + 1 => by
    obtain ⟨h1, h2, h3⟩ := insAt_ok p n
    cases hp : p n with
    | true =>
      have e : insAt p (n + 1) = insAt p n := by simp [insAt, downQ, hp]
      rw [e]
      refine ⟨by omega, h2, fun j hj hn => ?_⟩
      by_cases hjn : j = n
      · rw [hjn]; exact hp
      · exact h3 j hj (by omega)
    | false =>
      have e : insAt p (n + 1) = n + 1 := by simp [insAt, downQ, hp]
      rw [e]
      exact ⟨Nat.le_refl _, fun _ => by simpa using hp, fun j hj hn => by omega⟩
/-- One more at the end, all from `at'` on pushed by one, and the new one set. -/
theorem copy_ins {l : List D} {z r : D} {n a : Nat} (hl : l.length = n) (ha : a ≤ n) :
    (List.take ((0 : Nat) + (a + 1)) (List.take n (List.drop (0 : Nat) l) ++ [z]) ++ (List.take (n + 1 - (a + 1)) (List.take (n + 1 - a) (List.drop ((0 : Nat) + a) (List.take n (List.drop (0 : Nat) l) ++ [z]))) ++
      List.drop ((0 : Nat) + (a + 1) + (List.take (n + 1 - a) (List.drop ((0 : Nat) + a) (List.take n (List.drop (0 : Nat) l) ++ [z]))).length.min (n + 1 - (a + 1))) (List.take n (List.drop (0 : Nat) l) ++ [z]))).set ((0 : Nat) + a) r
    = l.take a ++ r :: l.drop a := by
  have e0 : List.take n (List.drop (0 : Nat) l) = l := by rw [List.drop_zero, List.take_of_length_le (by omega)]
  rw [e0]
  simp only [Nat.zero_add]
  have hL : (l ++ [z]).length = n + 1 := by simp [hl]
  have e1 : List.take (n + 1 - a) (List.drop a (l ++ [z])) = List.drop a (l ++ [z]) := List.take_of_length_le (by rw [List.length_drop, hL]; omega)
  rw [e1]
  have e2 : (List.drop a (l ++ [z])).length.min (n + 1 - (a + 1)) = n - a := by rw [List.length_drop, hL]; simp [Nat.min_def]; omega
  rw [e2]
  have e3 : List.drop (a + 1 + (n - a)) (l ++ [z]) = [] := List.drop_eq_nil_of_le (by omega)
  rw [e3, List.append_nil]
  have e4 : List.take (n + 1 - (a + 1)) (List.drop a (l ++ [z])) = l.drop a := by
    rw [List.drop_append_of_le_length (by omega), List.take_append_of_le_length (by rw [List.length_drop]; omega), List.take_of_length_le (by rw [List.length_drop]; omega)]
  rw [e4]
  have e5 : (List.take (a + 1) (l ++ [z])).length = a + 1 := by rw [List.length_take, hL]; omega
  rw [List.set_append_left _ _ (by omega)]
  have e6 : (List.take (a + 1) (l ++ [z])).set a r = l.take a ++ [r] := by
    apply List.ext_getElem?
    intro i
    rw [List.getElem?_set]
    by_cases h : a = i
    · subst h
      rw [if_pos rfl, if_pos (by omega), List.getElem?_append_right (by rw [List.length_take]; omega)]
      have : a - (l.take a).length = 0 := by rw [List.length_take]; omega
      rw [this]; rfl
    · rw [if_neg h]
      by_cases h2 : i < a
      · rw [List.getElem?_take_of_lt (by omega), List.getElem?_append_left (by omega), List.getElem?_append_left (by rw [List.length_take]; omega), List.getElem?_take_of_lt h2]
      · rw [List.getElem?_eq_none (by omega), List.getElem?_eq_none (by rw [List.length_append, List.length_take, List.length_singleton]; omega)]
  rw [e6, List.append_assoc]
  rfl
end Go.Sy
