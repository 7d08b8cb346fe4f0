/- Plain: columns: values appended, set; how many unlike texts. -/
import Derived.Test.YtkfdfenaaidkkaaPvT
set_option linter.unusedSimpArgs false
set_option linter.unusedVariables false
namespace Go.Sy
open Go
def isT (d : D) : Bool := decide (vK d = 2)
def isN (d : D) : Bool := decide (vK d = 0)
def txs (vl : List D) : List D := (vl.filter isT).map fun d => D.str (vS d)
def nls (vl : List D) : Int := ((vl.filter isN).length : Int)
def txO (d : D) : List D := if vK d = 2 then [.str (vS d)] else []
def nlO (d : D) : Int := if vK d = 0 then 1 else 0
theorem txs_append (a b : List D) : txs (a ++ b) = txs a ++ txs b := by simp [txs]
theorem nls_append (a b : List D) : nls (a ++ b) = nls a + nls b := by simp [nls]
theorem txs_one (d : D) : txs [d] = txO d := by
  unfold txs txO isT
  by_cases h : vK d = 2 <;> simp [h]
theorem nls_one (d : D) : nls [d] = nlO d := by
  unfold nls nlO isN
  by_cases h : vK d = 0 <;> simp [h]
theorem txs_cons (d : D) (b : List D) : txs (d :: b) = txO d ++ txs b := by rw [← txs_one, ← txs_append]; rfl
theorem nls_cons (d : D) (b : List D) : nls (d :: b) = nlO d + nls b := by rw [← nls_one, ← nls_append]; rfl
theorem txs_len (vl : List D) : (txs vl).length ≤ vl.length := by
  unfold txs
  rw [List.length_map]
  exact List.length_filter_le _ _
theorem nls_bound (vl : List D) : 0 ≤ nls vl ∧ nls vl ≤ vl.length := by
  unfold nls
  have := List.length_filter_le isN vl
  omega
theorem strsD_append (a b : List D) : strsD (a ++ b) = strsD a ++ strsD b := by simp [strsD]
theorem InvD.perm {l w w' : List D} (h : InvD l w) (p : (strsD w).Perm (strsD w')) : InvD l w' :=
  ⟨h.ss, fun x => by rw [h.mem, p.mem_iff], fun x => by rw [h.cnt, p.count_eq]⟩
/-- A column: its values, how many nothings, its words (if there are any yet). -/
structure ColInv (kind : Int) (vl : List D) (u : Int) (o : Option (List D)) : Prop where
  len : vl.length ≤ 50
  all : ∀ d ∈ vl, mayC kind (vK d) (vN d) (vS d) = true
  nul : u = nls vl
  dict : match o with
    | none => txs vl = []
    | some l => InvD l (txs vl)
def uIn (a u : Int) : Int := if a = 0 then u + 1 else u
def uOut (a u : Int) : Int := if a = 0 then u - 1 else u
def dIn (a : Int) (c : List UInt8) (o : Option (List D)) : Option (List D) := if a = 2 then some (addW (o.getD []) c) else o
def dOut (a : Int) (c : List UInt8) (o : Option (List D)) : Option (List D) := if a = 2 then o.map fun l => takeW l c else o
def vD (a b : Int) (c : List UInt8) : D := .agg [.int a, .int b, .str c]
theorem vD_k (a b : Int) (c : List UInt8) : vK (vD a b c) = a ∧ vN (vD a b c) = b ∧ vS (vD a b c) = c := ⟨rfl, rfl, rfl⟩
theorem col_nil (kind : Int) : ColInv kind [] 0 none := ⟨by simp, fun d hd => by simp at hd, rfl, rfl⟩
theorem dIn_law {a b : Int} {c : List UInt8} {o : Option (List D)} {w : List D} (hw : w.length < 1000000) (h : match o with | none => w = [] | some l => InvD l w) :
    match dIn a c o with | none => w ++ txO (vD a b c) = [] | some l => InvD l (w ++ txO (vD a b c)) := by
  unfold dIn txO
  rw [(vD_k a b c).1, (vD_k a b c).2.2]
  by_cases h2 : a = 2
  · rw [if_pos h2, if_pos h2]
    cases o with
    | none =>
      simp only at h
      subst h
      exact InvD.nil.add (by simp) c
    | some l => exact InvD.add h hw c
  · rw [if_neg h2, if_neg h2, List.append_nil]
    exact h
theorem app_law {kind u : Int} {vl : List D} {o : Option (List D)} (h : ColInv kind vl u o) (h50 : vl.length < 50) {a b : Int} {c : List UInt8} (hm : mayC kind a b c = true) :
    ColInv kind (vl ++ [vD a b c]) (uIn a u) (dIn a c o) := by
  refine ⟨by simp; omega, fun d hd => ?_, ?_, ?_⟩
  · rcases List.mem_append.1 hd with hd | hd
    · exact h.all d hd
    · rw [List.mem_singleton] at hd
      subst hd
      exact hm
  · rw [nls_append, nls_one, h.nul]
    unfold uIn nlO
    rw [(vD_k a b c).1]
    split <;> omega
  · rw [txs_append, txs_one]
    exact dIn_law (b := b) (by have := txs_len vl; omega) h.dict
theorem set_split {vl : List D} {i : Nat} (h : i < vl.length) (v : D) : ∃ A B, vl = A ++ vl.getD i .nul :: B ∧ vl.set i v = A ++ v :: B ∧ A.length = i := by
  refine ⟨vl.take i, vl.drop (i + 1), split_at h, ?_, by simp; omega⟩
  rw [List.set_eq_take_append_cons_drop, if_pos h]
theorem set_law {kind u : Int} {vl : List D} {o : Option (List D)} (h : ColInv kind vl u o) {i : Nat} (hi : i < vl.length) {a b : Int} {c : List UInt8} (hm : mayC kind a b c = true) :
    ColInv kind (vl.set i (vD a b c)) (uIn a (uOut (vK (vl.getD i .nul)) u)) (dIn a c (dOut (vK (vl.getD i .nul)) (vS (vl.getD i .nul)) o)) := by
  obtain ⟨A, B, e1, e2, hA⟩ := set_split hi (vD a b c)
  have hl := h.len
  have hlen : A.length + B.length + 1 = vl.length := by
    have := congrArg List.length e1
    simp at this
    omega
  generalize hwd : vl.getD i .nul = was at *
  rw [e2]
  have hall := h.all
  have hd := h.dict
  have hn := h.nul
  rw [e1] at hall hd hn
  have tA := txs_len A
  have tB := txs_len B
  refine ⟨by simp; omega, fun d hd => ?_, ?_, ?_⟩
  · rcases List.mem_append.1 hd with hd | hd
    · exact hall d (by simp [hd])
    · rcases List.mem_cons.1 hd with rfl | hd
      · exact hm
      · exact hall d (by simp [hd])
  · rw [nls_append, nls_cons] at hn ⊢
    unfold uIn uOut nlO at *
    rw [(vD_k a b c).1]
    split <;> split <;> simp_all <;> omega
  · have key : match dOut (vK was) (vS was) o with | none => txs A ++ txs B = [] | some l => InvD l (txs A ++ txs B) := by
      rw [txs_append, txs_cons] at hd
      unfold dOut
      by_cases h2 : vK was = 2
      · have eo : txO was = [.str (vS was)] := by unfold txO; rw [if_pos h2]
        rw [eo] at hd
        rw [if_pos h2]
        cases o with
        | none => simp at hd
        | some l =>
          simp only [Option.map_some]
          have := (InvD.take (w := txs A ++ ([D.str (vS was)] ++ txs B)) hd (by simp; omega) (k := vS was) (i := (txs A).length) (by simp) (by simp [List.getD, D.asStr])).1
          have e3 : (txs A ++ ([D.str (vS was)] ++ txs B)).eraseIdx (txs A).length = txs A ++ txs B := by
            rw [List.eraseIdx_append_of_length_le (Nat.le_refl _)]
            simp
          rw [e3] at this
          exact this
      · have eo : txO was = [] := by unfold txO; rw [if_neg h2]
        rw [eo] at hd
        rw [if_neg h2]
        exact hd
    have := dIn_law (a := a) (b := b) (c := c) (by simp; omega) key
    rw [txs_append, txs_cons]
    cases ho : dIn a c (dOut (vK was) (vS was) o) with
    | none =>
      rw [ho] at this
      simp only at this ⊢
      simp only [List.append_eq_nil_iff] at this ⊢
      exact ⟨this.1.1, this.2, this.1.2⟩
    | some l =>
      rw [ho] at this
      refine InvD.perm this ?_
      rw [strsD_append, strsD_append, strsD_append, strsD_append, List.append_assoc]
      exact List.Perm.append_left _ List.perm_append_comm
/- ### unlike texts -/
theorem nodup_le {α : Type} [DecidableEq α] : ∀ (a b : List α), a.Nodup → (∀ x ∈ a, x ∈ b) → a.length ≤ b.length
  | [], b, _, _ => Nat.zero_le _
  | x :: a, b, hn, hs => by
    have hn' := List.nodup_cons.1 hn
    have hx := hs x (by simp)
    have := nodup_le a (b.erase x) hn'.2 fun y hy => (List.mem_erase_of_ne (fun (e : y = x) => hn'.1 (by rw [← e]; exact hy))).2 (hs y (by simp [hy]))
    rw [List.length_erase_of_mem hx] at this
    have hp := List.length_pos_of_mem hx
    rw [List.length_cons]
    omega
/-- Is the i-th a text that no one ahead is like, as far as the k-th? -/
def newT (vl : List D) (i k : Nat) : Bool := isT (vl.getD i .nul) && (List.range k).all fun j => !decide (cmpD (vl.getD j .nul) (vl.getD i .nul) = 0)
def wordsN (vl : List D) : Nat → Nat
  | 0 => 0
  | n + 1 => wordsN vl n + if newT vl n n = true then 1 else 0
def firsts (vl : List D) : Nat → List (List UInt8)
  | 0 => []
  | n + 1 => if newT vl n n = true then firsts vl n ++ [vS (vl.getD n .nul)] else firsts vl n
theorem firsts_len (vl : List D) : ∀ n, (firsts vl n).length = wordsN vl n
  | 0 => rfl
  | n + 1 => by
    have ih := firsts_len vl n
    unfold firsts wordsN
    split <;> simp [ih]
theorem cmpD_zero {x y : D} : cmpD x y = 0 ↔ vK x = vK y ∧ vN x = vN y ∧ vS x = vS y := by unfold cmpD; rw [cmp3_zero]
theorem firsts_law {kind : Int} {vl : List D} (hall : ∀ d ∈ vl, mayC kind (vK d) (vN d) (vS d) = true) : ∀ n, n ≤ vl.length → (firsts vl n).Nodup ∧ ∀ x, x ∈ firsts vl n ↔ ∃ j, j < n ∧ vK (vl.getD j .nul) = 2 ∧ vS (vl.getD j .nul) = x
  | 0, _ => ⟨by simp [firsts], fun x => by simp [firsts]⟩
  | n + 1, h => by
    obtain ⟨h1, h2⟩ := firsts_law hall n (by omega)
    have may0 : ∀ j, j < vl.length → vK (vl.getD j .nul) = 2 → vN (vl.getD j .nul) = 0 := fun j hj hk => by
      have hm : vl.getD j .nul ∈ vl := by rw [List.getD, List.getElem?_eq_getElem hj]; exact List.getElem_mem hj
      have := hall _ hm
      unfold mayC mayV at this
      rw [hk] at this
      simp at this
      exact this.2.1
    have like : ∀ j, j < n → (vK (vl.getD n .nul) = 2 → (cmpD (vl.getD j .nul) (vl.getD n .nul) = 0 ↔ vK (vl.getD j .nul) = 2 ∧ vS (vl.getD j .nul) = vS (vl.getD n .nul))) := fun j hj hk => by
      rw [cmpD_zero, hk]
      constructor
      · rintro ⟨a, b, c⟩; exact ⟨a, c⟩
      · rintro ⟨a, c⟩; exact ⟨a, by rw [may0 j (by omega) a, may0 n (by omega) hk], c⟩
    unfold firsts
    cases hn : newT vl n n with
    | true =>
      rw [if_pos rfl]
      unfold newT isT at hn
      simp only [Bool.and_eq_true, decide_eq_true_eq, List.all_eq_true, List.mem_range, Bool.not_eq_true', decide_eq_false_iff_not] at hn
      obtain ⟨hk, hne⟩ := hn
      have hnot : vS (vl.getD n .nul) ∉ firsts vl n := fun hm => by
        obtain ⟨j, hj, e1, e2⟩ := (h2 _).1 hm
        exact hne j hj ((like j hj hk).2 ⟨e1, e2⟩)
      refine ⟨?_, fun x => ?_⟩
      · rw [List.nodup_append]
        refine ⟨h1, by simp, fun y hy z hz => ?_⟩
        rw [List.mem_singleton] at hz
        subst hz
        exact fun e => hnot (e ▸ hy)
      · rw [List.mem_append, List.mem_singleton, h2]
        constructor
        · rintro (⟨j, hj, e⟩ | rfl)
          · exact ⟨j, by omega, e⟩
          · exact ⟨n, by omega, hk, rfl⟩
        · rintro ⟨j, hj, e1, e2⟩
          rcases Nat.lt_or_ge j n with g | g
          · exact .inl ⟨j, g, e1, e2⟩
          · have : j = n := by omega
            subst this
            exact .inr e2.symm
    | false =>
      rw [if_neg (by simp)]
      refine ⟨h1, fun x => ?_⟩
      rw [h2]
      constructor
      · rintro ⟨j, hj, e⟩; exact ⟨j, by omega, e⟩
      · rintro ⟨j, hj, e1, e2⟩
        rcases Nat.lt_or_ge j n with g | g
        · exact ⟨j, g, e1, e2⟩
        · have : j = n := by omega
          subst this
          by_cases hex : ∃ k, k < j ∧ cmpD (vl.getD k .nul) (vl.getD j .nul) = 0
          · obtain ⟨k, hk, hc⟩ := hex
            obtain ⟨f1, f2⟩ := (like k hk e1).1 hc
            exact ⟨k, hk, f1, by rw [f2, e2]⟩
          · exfalso
            have : newT vl j j = true := by
              unfold newT isT
              simp only [Bool.and_eq_true, decide_eq_true_eq, List.all_eq_true, List.mem_range, Bool.not_eq_true', decide_eq_false_iff_not]
              exact ⟨e1, fun k hk hc => hex ⟨k, hk, hc⟩⟩
            rw [this] at hn
            cases hn
theorem mem_txs {vl : List D} {x : List UInt8} : x ∈ strsD (txs vl) ↔ ∃ j, j < vl.length ∧ vK (vl.getD j .nul) = 2 ∧ vS (vl.getD j .nul) = x := by
  unfold strsD txs
  rw [List.map_map, List.mem_map]
  constructor
  · rintro ⟨d, hd, rfl⟩
    rw [List.mem_filter] at hd
    obtain ⟨i, hi, rfl⟩ := List.getElem_of_mem hd.1
    refine ⟨i, hi, ?_⟩
    have := hd.2
    unfold isT at this
    rw [List.getD, List.getElem?_eq_getElem hi]
    exact ⟨of_decide_eq_true this, rfl⟩
  · rintro ⟨i, hi, h1, h2⟩
    rw [List.getD, List.getElem?_eq_getElem hi] at h1 h2
    exact ⟨vl[i], List.mem_filter.2 ⟨List.getElem_mem hi, decide_eq_true h1⟩, h2⟩
theorem words_law {kind u : Int} {vl l : List D} (h : ColInv kind vl u (some l)) : l.length = wordsN vl vl.length := by
  obtain ⟨h1, h2⟩ := firsts_law h.all vl.length (Nat.le_refl _)
  have hd : InvD l (txs vl) := h.dict
  have hm : ∀ x, x ∈ keysD l ↔ x ∈ firsts vl vl.length := fun x => by rw [hd.mem, mem_txs, h2]
  have e1 := nodup_le _ _ h1 fun x hx => (hm x).2 hx
  have e2 := nodup_le _ _ (SS_nodup hd.ss) fun x hx => (hm x).1 hx
  rw [keysD_len] at e1 e2
  rw [firsts_len] at e1 e2
  omega
theorem words_none {kind u : Int} {vl : List D} (h : ColInv kind vl u none) : wordsN vl vl.length = 0 := by
  obtain ⟨h1, h2⟩ := firsts_law h.all vl.length (Nat.le_refl _)
  have hd : txs vl = [] := h.dict
  rw [← firsts_len]
  cases hf : firsts vl vl.length with
  | nil => rfl
  | cons x r =>
    exfalso
    have : x ∈ strsD (txs vl) := mem_txs.2 ((h2 x).1 (by rw [hf]; simp))
    rw [hd] at this
    simp [strsD] at this
theorem wordsN_le (vl : List D) : ∀ n, wordsN vl n ≤ n
  | 0 => Nat.le_refl _
  | n + 1 => by
    have := wordsN_le vl n
    unfold wordsN
    split <;> omega
theorem col_len {kind u : Int} {vl l : List D} (h : ColInv kind vl u (some l)) : l.length ≤ 50 := by
  have := words_law h
  have := wordsN_le vl vl.length
  have := h.len
  omega
theorem col_u {kind u : Int} {vl : List D} {o : Option (List D)} (h : ColInv kind vl u o) : 0 ≤ u ∧ u ≤ 50 := by
  have := nls_bound vl
  have := h.len
  have := h.nul
  omega
theorem takeW_len (l : List D) (k : List UInt8) : (takeW l k).length ≤ l.length := by
  cases hh : hasB l k with
  | false => rw [takeW_f hh]; exact Nat.le_refl _
  | true =>
    cases h2 : decide (getK l k > 1) with
    | true => rw [takeW_t hh h2, setK_len]; exact Nat.le_refl _
    | false => rw [takeW_d hh h2, delK_len _ (hasB_lt hh)]; omega
theorem col_no2 {kind u : Int} {vl : List D} (h : ColInv kind vl u none) {i : Nat} (hi : i < vl.length) : ¬ vK (vl.getD i .nul) = 2 := fun h2 => by
  have hd : txs vl = [] := h.dict
  have := mem_txs.2 ⟨i, hi, h2, rfl⟩
  rw [hd] at this
  simp [strsD] at this
theorem col_kind {kind u : Int} {vl : List D} {o : Option (List D)} (h : ColInv kind vl u o) {i : Nat} (hi : i < vl.length) : vK (vl.getD i .nul) = 0 ∨ vK (vl.getD i .nul) = kind := by
  have hm : vl.getD i .nul ∈ vl := by rw [List.getD, List.getElem?_eq_getElem hi]; exact List.getElem_mem hi
  have := h.all _ hm
  unfold mayC at this
  simp only [Bool.and_eq_true, Bool.or_eq_true, decide_eq_true_eq] at this
  exact this.1
theorem may_kind {kind a b : Int} {c : List UInt8} (h : mayC kind a b c = true) : a = 0 ∨ a = kind := by
  unfold mayC at h
  simp only [Bool.and_eq_true, Bool.or_eq_true, decide_eq_true_eq] at h
  exact h.1
end Go.Sy
