/- Plain: how many times each word is there. -/
import Derived.Test.YtkfdfenaaidkkaaPvO
set_option linter.unusedSimpArgs false
set_option linter.unusedVariables false
namespace Go.Sy
open Go
def look : List D → List UInt8 → Int
  | [], _ => 0
  | d :: l, x => if keyD d = x then numD d else look l x
theorem look_skip (a b : List D) {d : D} {x : List UInt8} (h : keyD d ≠ x) : look (a ++ d :: b) x = look (a ++ b) x := by
  induction a with
  | nil => simp [look, h]
  | cons c a ih => simp only [List.cons_append, look, ih]
theorem look_hit (a b : List D) {d : D} (h : keyD d ∉ keysD a) : look (a ++ d :: b) (keyD d) = numD d := by
  induction a with
  | nil => simp [look]
  | cons c a ih =>
    simp only [keysD, List.map_cons, List.mem_cons, not_or] at h
    simp only [List.cons_append, look]
    rw [if_neg (fun e => h.1 e.symm)]
    exact ih h.2
theorem look_none {l : List D} {x : List UInt8} (h : x ∉ keysD l) : look l x = 0 := by
  induction l with
  | nil => rfl
  | cons c a ih =>
    simp only [keysD, List.map_cons, List.mem_cons, not_or] at h
    simp only [look]
    rw [if_neg (fun e => h.1 e.symm)]
    exact ih h.2
theorem split_at {l : List D} {i : Nat} (h : i < l.length) : l = l.take i ++ l.getD i .nul :: l.drop (i + 1) := by
  have : l.getD i .nul = l[i] := by simp [List.getD, List.getElem?_eq_getElem h]
  rw [this, ← List.drop_eq_getElem_cons h, List.take_append_drop]
theorem not_ahead {l : List D} (hs : SS (keysD l)) (k : List UInt8) : k ∉ keysD (l.take (bs l k)) := by
  intro h
  have : k ∈ (keysD l).take (bs l k) := by unfold keysD at h ⊢; rwa [← List.map_take]
  exact ltB_irrefl _ (bs_take hs k this)
theorem getK_look {l : List D} (hs : SS (keysD l)) (k : List UInt8) : getK l k = look l k := by
  unfold getK
  cases h : hasB l k
  · rw [look_none]
    intro hm
    rw [(hasB_iff hs).2 hm] at h
    cases h
  · have hl := hasB_lt h
    have hk := hasB_key h
    have hn := not_ahead hs k
    conv => rhs; rw [split_at hl]
    have := look_hit (l.take (bs l k)) (l.drop (bs l k + 1)) (d := l.getD (bs l k) .nul) (by rw [hk]; exact hn)
    rw [hk] at this
    exact this.symm
theorem look_set {l : List D} (hs : SS (keysD l)) {k : List UInt8} (h : hasB l k = true) (v : Int) (x : List UInt8) : look (setK l (bs l k) v) x = if k = x then v else look l x := by
  have hl := hasB_lt h
  have hk := hasB_key h
  have hn := not_ahead hs k
  have e : setK l (bs l k) v = l.take (bs l k) ++ pairD k v :: l.drop (bs l k + 1) := by
    unfold setK
    rw [List.set_eq_take_append_cons_drop, if_pos hl, hk]
  rw [e]
  split
  · rename_i hx
    subst hx
    exact look_hit (d := pairD k v) _ _ hn
  · rename_i hx
    rw [look_skip _ _ (show keyD (pairD k v) ≠ x from hx)]
    conv => rhs; rw [split_at hl]
    rw [look_skip _ _ (by rw [hk]; exact hx)]
theorem look_ins {l : List D} (hs : SS (keysD l)) (k : List UInt8) (v : Int) (x : List UInt8) : look (insK l (bs l k) k v) x = if k = x then v else look l x := by
  have hn := not_ahead hs k
  unfold insK
  split
  · rename_i hx
    subst hx
    exact look_hit (d := pairD k v) _ _ hn
  · rename_i hx
    rw [look_skip _ _ (show keyD (pairD k v) ≠ x from hx), List.take_append_drop]
theorem SS_nodup {l : List (List UInt8)} (h : SS l) : l.Nodup := List.Pairwise.imp (fun {a b} (hab : ltB a b) => fun (e : a = b) => ltB_irrefl _ (e ▸ hab)) h
theorem look_del {l : List D} (hs : SS (keysD l)) {k : List UInt8} (h : hasB l k = true) (x : List UInt8) : look (delK l (bs l k)) x = if k = x then 0 else look l x := by
  have hl := hasB_lt h
  have hk := hasB_key h
  have e := split_at hl
  have hn : k ∉ keysD (delK l (bs l k)) := by
    have hd := SS_nodup hs
    have e2 : keysD l = keysD (l.take (bs l k)) ++ k :: keysD (l.drop (bs l k + 1)) := by
      conv => lhs; rw [e]
      simp [keysD, hk] at *
      exact hk
    rw [e2, List.nodup_append] at hd
    unfold delK
    have e3 : keysD (l.take (bs l k) ++ l.drop (bs l k + 1)) = keysD (l.take (bs l k)) ++ keysD (l.drop (bs l k + 1)) := by simp [keysD]
    rw [e3, List.mem_append]
    rintro (g | g)
    · exact not_ahead hs k g
    · exact (List.nodup_cons.1 hd.2.1).1 g
  split
  · rename_i hx
    subst hx
    exact look_none hn
  · rename_i hx
    conv => rhs; rw [e]
    rw [look_skip _ _ (by rw [hk]; exact hx)]
    rfl
/-- The words, and how often, are those of the list. -/
structure InvD (l w : List D) : Prop where
  ss : SS (keysD l)
  mem : ∀ x, x ∈ keysD l ↔ x ∈ strsD w
  cnt : ∀ x, look l x = ((strsD w).count x : Int)
theorem InvD.nil : InvD [] [] := ⟨by simp [SS, keysD], fun x => by simp [keysD, strsD], fun x => by simp [look, strsD]⟩
theorem InvD.has {l w : List D} (h : InvD l w) (k : List UInt8) : hasB l k = true ↔ k ∈ strsD w := by rw [hasB_iff h.ss, h.mem]
theorem InvD.get {l w : List D} (h : InvD l w) (k : List UInt8) : getK l k = ((strsD w).count k : Int) := by rw [getK_look h.ss, h.cnt]
theorem InvD.add {l w : List D} (h : InvD l w) (hw : w.length < 1000000) (k : List UInt8) : InvD (addW l k) (w ++ [.str k]) := by
  have es : strsD (w ++ [.str k]) = strsD w ++ [k] := by simp [strsD, D.asStr]
  refine ⟨SS_addW h.ss k, fun x => ?_, fun x => ?_⟩
  · rw [mem_addW h.ss, h.mem, es, List.mem_append, List.mem_singleton]
    exact Or.comm
  · rw [es, List.count_append, List.count_singleton]
    have hc : (strsD w).count k ≤ w.length := by have := List.count_le_length (a := k) (l := strsD w); rw [strsD_len] at this; exact this
    cases hh : hasB l k
    · rw [addW_f hh, look_ins h.ss]
      split
      · rename_i e
        subst e
        have : (strsD w).count k = 0 := List.count_eq_zero.2 fun hm => by rw [(h.has k).2 hm] at hh; cases hh
        rw [this]; simp
      · rename_i e
        rw [h.cnt]
        simp [e]
    · rw [addW_t hh, look_set h.ss hh, h.get, wrap64 (by omega) (by omega)]
      split
      · rename_i e
        subst e
        simp
      · rename_i e
        rw [h.cnt]
        simp [e]
theorem InvD.take {l w : List D} (h : InvD l w) (hw : w.length < 1000000) {k : List UInt8} {i : Nat} (hi : i < w.length) (hk : (w.getD i .nul).asStr = k) : InvD (takeW l k) (w.eraseIdx i) ∧ hasB l k = true := by
  have hm : k ∈ strsD w := mem_strs.2 ⟨i, hi, hk⟩
  have hh := (h.has k).2 hm
  have hc : (strsD w).count k ≤ w.length := by have := List.count_le_length (a := k) (l := strsD w); rw [strsD_len] at this; exact this
  have hi' : i < (strsD w).length := by rw [strsD_len]; exact hi
  have es : strsD (w.eraseIdx i) = (strsD w).eraseIdx i := by
    unfold strsD
    rw [List.eraseIdx_eq_take_drop_succ, List.eraseIdx_eq_take_drop_succ, List.map_append, List.map_take, List.map_drop]
  have eg : (strsD w)[i] = k := by
    simp only [strsD, List.getElem_map]
    rw [← hk]
    simp [List.getD, List.getElem?_eq_getElem hi]
  have e0 : strsD w = (strsD w).take i ++ k :: (strsD w).drop (i + 1) := by
    conv => lhs; rw [← List.take_append_drop i (strsD w), List.drop_eq_getElem_cons hi', eg]
  have perm : (k :: (strsD w).eraseIdx i).Perm (strsD w) := by
    rw [List.eraseIdx_eq_take_drop_succ]
    conv => rhs; rw [e0]
    exact List.perm_middle.symm
  have cnt : ∀ x, (strsD w).count x = ((strsD w).eraseIdx i).count x + if k = x then 1 else 0 := fun x => by
    rw [← perm.count_eq x, List.count_cons]
    simp
  have mem : ∀ x, x ∈ strsD w ↔ x = k ∨ x ∈ (strsD w).eraseIdx i := fun x => by rw [← perm.mem_iff, List.mem_cons]
  have ck := cnt k
  rw [if_pos rfl] at ck
  have hg := h.get k
  refine ⟨?_, hh⟩
  unfold takeW
  rw [hh]
  simp only
  cases h1 : decide (getK l k > 1)
  · simp only
    have h1 := of_decide_eq_false h1
    have hz : ((strsD w).eraseIdx i).count k = 0 := by omega
    refine ⟨SS_del h.ss _, fun x => ?_, fun x => ?_⟩
    · rw [es]
      have hd : x ∈ keysD (delK l (bs l k)) ↔ x ≠ k ∧ x ∈ keysD l := by
        have hs := h.ss
        have e2 : keysD l = (keysD l).take (bs l k) ++ k :: (keysD l).drop (bs l k + 1) := by
          have hb : bs l k < (keysD l).length := by rw [keysD_len]; exact hasB_lt hh
          have hg : (keysD l)[bs l k] = k := by
            have := keysD_get (hasB_lt hh)
            rw [hasB_key hh, List.getElem?_eq_getElem hb] at this
            exact Option.some.inj this
          conv => lhs; rw [← List.take_append_drop (bs l k) (keysD l), List.drop_eq_getElem_cons hb, hg]
        have hnd := SS_nodup hs
        rw [keys_del]
        rw [e2, List.nodup_append] at hnd
        have hlen : ((keysD l).take (bs l k)).length = bs l k := by rw [List.length_take, keysD_len]; have := hasB_lt hh; omega
        generalize (keysD l).take (bs l k) = A at *
        generalize (keysD l).drop (bs l k + 1) = B at *
        rw [e2, List.mem_append, List.mem_append, List.mem_cons]
        constructor
        · rintro (g | g)
          · exact ⟨fun e => hnd.2.2 x g k (by simp) e, .inl g⟩
          · exact ⟨fun e => (List.nodup_cons.1 hnd.2.1).1 (e ▸ g), .inr (.inr g)⟩
        · rintro ⟨hne, g | g | g⟩
          · exact .inl g
          · exact absurd g hne
          · exact .inr g
      rw [hd, h.mem, mem]
      constructor
      · rintro ⟨g, rfl | g2⟩
        · exact absurd rfl g
        · exact g2
      · intro g
        refine ⟨fun e => ?_, .inr g⟩
        subst e
        exact absurd g (List.count_eq_zero.1 hz)
    · rw [look_del h.ss hh, es]
      split
      · rename_i e
        subst e
        rw [hz]; rfl
      · rename_i e
        have := cnt x
        rw [if_neg e] at this
        rw [h.cnt, this]; rfl
  · simp only
    have h1 := of_decide_eq_true h1
    refine ⟨by rw [keys_set]; exact h.ss, fun x => ?_, fun x => ?_⟩
    · rw [keys_set, h.mem, es, mem]
      constructor
      · rintro (rfl | g)
        · exact List.count_pos_iff.1 (by omega)
        · exact g
      · exact .inr
    · rw [look_set h.ss hh, es, wrap64 (by omega) (by omega)]
      split
      · rename_i e
        subst e
        omega
      · rename_i e
        have := cnt x
        rw [if_neg e] at this
        rw [h.cnt, this]; rfl
end Go.Sy
