/- Blocks with other numbers; what cannot be come to is forgotten. -/
import Derived.Test.YtkfdfenaaidkkaaSyS
set_option linter.unusedSimpArgs false
set_option linter.unusedVariables false
namespace Go.Sy
open Go

/- ### lists of numbers -/
theorem mem_iff {b : Nat} : ∀ {l : List Nat}, mem b l = true ↔ b ∈ l
  | [] => by simp [mem]
  | x :: l => by
    simp only [mem, List.mem_cons]
    cases hx : Nat.beq x b with
    | true => have := beq_true_eq hx; subst this; simp
    | false =>
      have := beq_false_ne hx
      simp only [mem_iff (l := l)]
      constructor
      · exact .inr
      · rintro (rfl | h)
        · exact absurd rfl this
        · exact h
theorem allMem_iff {l : List Nat} : ∀ {bs : List Nat}, allMem l bs = true ↔ ∀ b ∈ bs, b ∈ l
  | [] => by simp [allMem]
  | b :: bs => by simp [allMem, mem_iff, allMem_iff (bs := bs)]
theorem entsMem_spec {s : St} {l : List Nat} : ∀ {bs : List Nat}, entsMem s l bs = true → ∀ b ∈ bs, ∃ x, s[b]? = some x ∧ ∀ c ∈ idsE x, c ∈ l
  | [], h, b, hb => by simp at hb
  | d :: bs, h, b, hb => by
    simp only [entsMem] at h
    split at h
    · rename_i x hx
      simp only [Bool.and_eq_true] at h
      rcases List.mem_cons.1 hb with rfl | hb
      · exact ⟨x, hx, allMem_iff.1 h.1⟩
      · exact entsMem_spec h.2 b hb
    · cases h
theorem nodupL_iff : ∀ {l : List Nat}, nodupL l = true → l.Nodup
  | [], h => List.nodup_nil
  | b :: l, h => by
    simp only [nodupL, Bool.and_eq_true, Bool.not_eq_true'] at h
    refine List.nodup_cons.2 ⟨fun hb => ?_, nodupL_iff h.2⟩
    rw [mem_iff.2 hb] at h; cases h.1
theorem liveL_spec {s : St} : ∀ {bs : List Nat}, liveL s bs = true → ∀ b ∈ bs, ∃ x v, s[b]? = some x ∧ x.view = some v
  | [], h, b, hb => by simp at hb
  | d :: bs, h, b, hb => by
    simp only [liveL] at h
    split at h
    · cases h
    · rename_i x hne hx
      rcases List.mem_cons.1 hb with rfl | hb
      · cases x with
        | cells cs => exact ⟨_, _, hx, rfl⟩
        | tbl ro e l => exact ⟨_, _, hx, rfl⟩
        | dead => exact (hne rfl).elim
      · exact liveL_spec h b hb
    · cases h
theorem pos_get : ∀ {l : List Nat} {b : Nat}, b ∈ l → l[pos l b]? = some b
  | [], b, h => by simp at h
  | x :: l, b, h => by
    simp only [pos]
    split
    · rename_i hx; have := beq_true_eq hx; subst this; rfl
    · rename_i hx
      have := beq_false_ne hx
      rcases List.mem_cons.1 h with e | h
      · exact absurd e.symm this
      · simpa using pos_get h
theorem pos_lt {l : List Nat} {b : Nat} (h : b ∈ l) : pos l b < l.length := (List.getElem?_eq_some_iff.1 (pos_get h)).1
theorem pos_of {l : List Nat} (hn : l.Nodup) {j b : Nat} (h : l[j]? = some b) : pos l b = j := by
  have hb := List.mem_of_getElem? h
  have h1 := pos_get hb
  have hj := (List.getElem?_eq_some_iff.1 h).1
  exact (List.getElem?_inj (pos_lt hb) hn).1 (h1.trans h.symm)
theorem eqNats_eq : ∀ {a b : List Nat}, eqNats a b = true → a = b
  | [], [], _ => rfl
  | [], _ :: _, h => by simp [eqNats] at h
  | _ :: _, [], h => by simp [eqNats] at h
  | a :: x, b :: y, h => by
    simp only [eqNats, Bool.and_eq_true] at h
    rw [beq_true_eq h.1, eqNats_eq h.2]
theorem upto_get : ∀ (n i : Nat), i < n → (upto n)[i]? = some i
  | 0, i, h => by omega
  | n + 1, i, h => by
    have hl : ∀ n, (upto n).length = n := fun n => by induction n with
      | zero => rfl
      | succ n ih => simp [upto, ih]
    simp only [upto]
    by_cases hi : i < n
    · rw [List.getElem?_append_left (by rw [hl]; exact hi)]; exact upto_get n i hi
    · have : i = n := by omega
      subst this
      rw [List.getElem?_append_right (by rw [hl]; exact Nat.le_refl _), hl]; simp
theorem picks_get {s : St} {f : Nat → Nat} : ∀ (l : List Nat) (j : Nat), (picks s f l)[j]? = (l[j]?).map fun b => match s[b]? with | some x => renE f x | none => .dead
  | [], j => by simp [picks]
  | b :: l, j => by
    simp only [picks]
    split
    · rename_i x hx
      cases j with
      | zero => simp [hx]
      | succ j => simpa using picks_get l j
    · rename_i hx
      cases j with
      | zero => simp [hx]
      | succ j => simpa using picks_get l j
theorem picks_length {s : St} {f : Nat → Nat} : ∀ (l : List Nat), (picks s f l).length = l.length
  | [] => rfl
  | b :: l => by simp only [picks]; split <;> simp [picks_length l]

/- ### other numbers -/
mutual
theorem Rel.ren {ρ ρ' : Rho} {f : Nat → Nat} (hfz : ∀ B o v, ρ.fz B o = some v → ρ'.fz B o = some v) : ∀ (a : AV) (v : Value), (∀ b ∈ idsV a, ∀ x, ρ b = some x → ρ' (f b) = some x) → Rel ρ a v → Rel ρ' (renV f a) v
  | .any, _, _, h => by simp [Rel] at h
  | .bool _, _, _, h => by simpa [Rel, renV] using h
  | .int _ _, _, _, h => by simpa [Rel, renV] using h
  | .str _, _, _, h => by simpa [Rel, renV] using h
  | .ptr none, _, _, h => by simpa [Rel, renV] using h
  | .ptr (some (b, off)), _, hm, h => by
    simp only [Rel, renV] at h ⊢
    obtain ⟨B, o, r, h1, h2⟩ := h
    exact ⟨B, o, r, hm b (by simp [idsV]) _ h1, h2⟩
  | .nilSl, _, _, h => by simpa [Rel, renV] using h
  | .sl b off len cap, _, hm, h => by
    simp only [Rel, renV] at h ⊢
    obtain ⟨B, o, r, h1, h2⟩ := h
    exact ⟨B, o, r, hm b (by simp [idsV]) _ h1, h2⟩
  | .fn g first caps, _, hm, h => by
    simp only [Rel, renV] at h ⊢
    obtain ⟨x, y, h1, h2, h3⟩ := h
    exact ⟨x, y, h1, Rels.ren hfz _ _ (fun b hb => hm b (by simp [idsV, hb])) h2, Rels.ren hfz _ _ (fun b hb => hm b (by simp [idsV, hb])) h3⟩
  | .nilFn, _, _, h => by simpa [Rel, renV] using h
  | .lit _, _, _, h => by simpa [Rel, renV] using h
  | .agg cs, _, hm, h => by
    simp only [Rel, renV] at h ⊢
    obtain ⟨l, h1, h2⟩ := h
    exact ⟨l, h1, Rels.ren hfz _ _ (fun b hb => hm b (by simpa [idsV] using hb)) h2⟩
  | .tup cs, _, hm, h => by
    simp only [Rel, renV] at h ⊢
    obtain ⟨l, h1, h2⟩ := h
    exact ⟨l, h1, Rels.ren hfz _ _ (fun b hb => hm b (by simpa [idsV] using hb)) h2⟩
  | .fz nn e l, _, _, h => by
    simp only [Rel, renV] at h ⊢
    exact h.mono hfz (fun d vs => RelSh.mono hfz e d vs)
  | .fref sh d, _, _, h => by
    simp only [Rel, renV] at h ⊢
    obtain ⟨B, o, vs, h1, h2, h3⟩ := h
    exact ⟨B, o, vs, h1, RelSh.mono hfz _ _ _ h2, fun j u hu => hfz _ _ _ (h3 j u hu)⟩
  | .tsl nn e b off len cap, _, hm, h => by
    simp only [Rel, renV] at h ⊢
    obtain ⟨B, o, r, h1, h2⟩ := h
    exact ⟨B, o, r, hm b (by simp [idsV]) _ h1, h2⟩
  | .eptr e b i fo, _, hm, h => by
    simp only [Rel, renV] at h ⊢
    obtain ⟨B, o, r, h1, h2⟩ := h
    exact ⟨B, o, r, hm b (by simp [idsV]) _ h1, h2⟩
theorem Rels.ren {ρ ρ' : Rho} {f : Nat → Nat} (hfz : ∀ B o v, ρ.fz B o = some v → ρ'.fz B o = some v) : ∀ (as : List AV) (vs : List Value), (∀ b ∈ idsVs as, ∀ x, ρ b = some x → ρ' (f b) = some x) → Rels ρ as vs → Rels ρ' (renVs f as) vs
  | [], _, _, h => by simpa [Rels, renVs] using h
  | a :: as, _, hm, h => by
    simp only [Rels, renVs] at h ⊢
    obtain ⟨v, vs, h1, h2, h3⟩ := h
    exact ⟨v, vs, h1, Rel.ren hfz _ _ (fun b hb => hm b (by simp [idsVs, hb])) h2, Rels.ren hfz _ _ (fun b hb => hm b (by simp [idsVs, hb])) h3⟩
end
theorem renVs_length {f : Nat → Nat} : ∀ (as : List AV), (renVs f as).length = as.length
  | [] => rfl
  | a :: as => by simp [renVs, renVs_length as]
theorem renVs_getD {f : Nat → Nat} : ∀ (as : List AV) (t : Nat), (renVs f as).getD t undefA = renV f (as.getD t undefA)
  | [], t => by simp [renVs, undefA, renV]
  | a :: as, 0 => by simp [renVs]
  | a :: as, t + 1 => by simpa [renVs] using renVs_getD as t
theorem idsVs_getD : ∀ (as : List AV) (t : Nat) (b : Nat), b ∈ idsV (as.getD t undefA) → b ∈ idsVs as
  | [], t, b, h => by simp [undefA, idsV, idsVs] at h
  | a :: as, 0, b, h => by simp at h; simp [idsVs, h]
  | a :: as, t + 1, b, h => by simp at h; simp [idsVs, idsVs_getD as t b (by simpa using h)]
theorem TR.ren {ρ ρ' : Rho} {f : Nat → Nat} (hfz : ∀ B o v, ρ.fz B o = some v → ρ'.fz B o = some v) {t : List AV} {arr : Array Value} (hm : ∀ b ∈ idsVs t, ∀ x, ρ b = some x → ρ' (f b) = some x) (h : TR ρ t arr) : TR ρ' (renVs f t) arr := by
  refine ⟨by rw [renVs_length]; exact h.1, fun i => ?_⟩
  rw [renVs_getD]
  rcases h.2 i with h1 | h1
  · left; rw [h1]; rfl
  · exact .inr (Rel.ren hfz _ _ (fun b hb => hm b (idsVs_getD t i b hb)) h1)
theorem view_ren {f : Nat → Nat} {x : Ent} {v : Bool × List AV} (h : (renE f x).view = some v) : ∃ cs, x.view = some (v.1, cs) ∧ ((x = .cells cs ∧ v.2 = renVs f cs) ∨ ((∃ ro e l, x = .tbl ro e l) ∧ v.2 = cs)) := by
  cases x with
  | cells cs => simp only [renE, Ent.view, Option.some.injEq] at h; subst h; exact ⟨cs, rfl, .inl ⟨rfl, rfl⟩⟩
  | tbl ro e l => simp only [renE, Ent.view, Option.some.injEq] at h; subst h; exact ⟨_, rfl, .inr ⟨⟨_, _, _, rfl⟩, rfl⟩⟩
  | dead => simp [renE, Ent.view] at h
theorem Holds.ren {ρ ρ' : Rho} {w : World} {B o r : Nat} {ro : Bool} {cs cs' : List AV} (hfz : ∀ B o v, ρ.fz B o = some v → ρ'.fz B o = some v) (hl : cs'.length = cs.length) (hc : ∀ vs, Rels ρ cs vs → Rels ρ' cs' vs) (h : Holds ρ w B o r ro cs) : Holds ρ' w B o r ro cs' where
  fit := by rw [hl]; exact h.fit
  lt := h.lt
  vals := by
    obtain ⟨vs, h1, h2, h3⟩ := h.vals
    exact ⟨vs, hc vs h1, h2, fun e i v hv => hfz _ _ _ (h3 e i v hv)⟩
  there := h.there
  free := h.free
theorem Holds.renE {ρ ρ' : Rho} {w : World} {B o r : Nat} {f : Nat → Nat} {x : Ent} {v : Bool × List AV} (hfz : ∀ B o v, ρ.fz B o = some v → ρ'.fz B o = some v) (hm : ∀ b ∈ idsE x, ∀ y, ρ b = some y → ρ' (f b) = some y) (hv : (renE f x).view = some v)
    (h : ∀ ro cs, x.view = some (ro, cs) → Holds ρ w B o r ro cs) : Holds ρ' w B o r v.1 v.2 := by
  obtain ⟨cs, h1, ⟨rfl, h2⟩ | ⟨⟨ro, e, l, rfl⟩, h2⟩⟩ := view_ren hv
  · rw [h2]
    exact (h _ _ h1).ren hfz (renVs_length cs) (fun vs hvs => Rels.ren hfz cs vs (fun b hb => hm b (by simpa [idsE] using hb)) hvs)
  · rw [h2]
    simp only [Ent.view, Option.some.injEq, Prod.mk.injEq] at h1
    obtain ⟨hro, rfl⟩ := h1
    refine (h v.1 (flat e l) (by simp [Ent.view, hro])).ren hfz rfl (fun vs hvs => ?_)
    clear h hv h2
    have key : ∀ (l : List D) vs, Rels ρ (flat e l) vs → Rels ρ' (flat e l) vs := by
      intro l
      induction l with
      | nil => intro vs h; simpa [flat, Rels] using h
      | cons d l ih =>
        intro vs h
        simp only [flat] at h ⊢
        have hl := h.length
        rw [List.length_append, expand_length] at hl
        have h1 := h.take e.size
        have h2 := h.drop e.size
        rw [List.take_left' (expand_length e d)] at h1
        rw [List.drop_left' (expand_length e d)] at h2
        rw [← List.take_append_drop e.size vs]
        exact Rels.append ((rels_expand _ _ _).1 (RelSh.mono hfz _ _ _ ((rels_expand _ _ _).2 h1))) (ih _ h2)
    exact key l vs hvs

/-- Only some of the blocks, with other numbers. -/
theorem pick_inv {ρ : Rho} {s : St} {w : World} {h : Hp} {l : List Nat} {vs : List AV} (hr : HR ρ h w) (hh : ∀ b ∈ l, h b = s[b]?) (hc : closedL s vs l = true) :
    ∃ ρ0 : Rho, InvC ρ0 (picks s (pos l) l) w ∧ (∀ b ∈ l, ρ0 (pos l b) = ρ b) ∧ (∀ j b, l[j]? = some b → ρ0 j = ρ b) ∧ ρ0.fz = ρ.fz ∧ (∀ j, l.length ≤ j → ρ0 j = none) := by
  simp only [closedL, Bool.and_eq_true] at hc
  obtain ⟨hc1, hc2, hc3⟩ := hc
  have hnd := nodupL_iff hc3
  have hents := entsMem_spec hc2
  obtain ⟨ρ0, hρ0⟩ : ∃ ρ0 : Rho, ρ0 = { at_ := fun j => match l[j]? with | some b => ρ b | none => none, fz := ρ.fz } := ⟨_, rfl⟩
  have hat : ∀ j b, l[j]? = some b → ρ0 j = ρ b := fun j b e => by rw [hρ0]; simp only [e]
  have hatn : ∀ j, l.length ≤ j → ρ0 j = none := fun j hj => by rw [hρ0]; simp only [List.getElem?_eq_none hj]
  have hpos : ∀ b ∈ l, ρ0 (pos l b) = ρ b := fun b hb => hat _ _ (pos_get hb)
  have hfz : ρ0.fz = ρ.fz := by rw [hρ0]
  have hfz' : ∀ B o v, ρ.fz B o = some v → ρ0.fz B o = some v := fun B o v e => by rw [hfz]; exact e
  have hget : ∀ j x, hpS (picks s (pos l) l) j = some x → ∃ b y, l[j]? = some b ∧ b ∈ l ∧ s[b]? = some y ∧ x = renE (pos l) y := fun j x e => by
    have e : (picks s (pos l) l)[j]? = some x := e
    rw [picks_get] at e
    cases hj : l[j]? with
    | none => rw [hj] at e; cases e
    | some b =>
      have hb := List.mem_of_getElem? hj
      obtain ⟨y, hy, _⟩ := hents b hb
      rw [hj] at e
      simp only [Option.map_some, hy, Option.some.injEq] at e
      exact ⟨b, y, rfl, hb, hy, e.symm⟩
  have hsome : ∀ j X, ρ0 j = some X → ∃ b, l[j]? = some b ∧ b ∈ l ∧ ρ b = some X := fun j X e => by
    cases hj : l[j]? with
    | none =>
      have : l.length ≤ j := List.getElem?_eq_none_iff.1 hj
      rw [hatn j this] at e; cases e
    | some b => exact ⟨b, rfl, List.mem_of_getElem? hj, by rw [← hat j b hj]; exact e⟩
  refine ⟨ρ0, ⟨⟨?_, ?_, ?_, ?_, ?_, hr.globs fun B _ hF => ⟨rfl, fun id o' r x cs h1 h2 h3 h4 => ?_⟩⟩, fun j hj => hatn j (by rwa [picks_length] at hj)⟩, hpos, hat, hfz, hatn⟩
  · intro j B o r x ro cs h1 h2 h3
    obtain ⟨b, y, hj, hb, hy, rfl⟩ := hget j x h2
    have h1' : ρ b = some (B, o, r) := by rw [← hat j b hj]; exact h1
    obtain ⟨y', hy', hids⟩ := hents b hb
    rw [hy] at hy'; cases hy'
    exact Holds.renE hfz' (fun c hc z hz => by rw [hpos c (hids c hc)]; exact hz) h3 (fun ro' cs' e => hr.cell b B o r y ro' cs' h1' (by rw [hh b hb]; exact hy) e)
  · intro i j B o r o' r' x y ro ro' cs cs' hij h1 h2 h3 h4 h5 h6 h7 h8 h9
    obtain ⟨b, xb, hi, hb, hxb, rfl⟩ := hget i x h5
    obtain ⟨c, yc, hj, hc, hyc, rfl⟩ := hget j y h6
    obtain ⟨cs1, v1, _⟩ := view_ren h7
    obtain ⟨cs2, v2, _⟩ := view_ren h8
    refine hr.apart b c B o r o' r' xb yc ro ro' cs1 cs2 (fun e => hij ?_) (by rw [← hat i b hi]; exact h1) (by rw [← hat j c hj]; exact h2) h3 h4 (by rw [hh b hb]; exact hxb) (by rw [hh c hc]; exact hyc) v1 v2 h9
    subst e
    rw [← pos_of hnd hi, ← pos_of hnd hj]
  · intro B o v e
    rw [hfz] at e
    exact hr.fzh B o v e
  · intro B o v e id o' r x cs h1 h2 h3 h4
    rw [hfz] at e
    obtain ⟨b, xb, hi, hb, hxb, rfl⟩ := hget id x h3
    obtain ⟨cs1, v1, _⟩ := view_ren h4
    exact hr.fza B o v e b o' r xb cs1 (by rw [← hat id b hi]; exact h1) h2 (by rw [hh b hb]; exact hxb) v1
  · intro j hj
    obtain ⟨X, hX⟩ := Option.ne_none_iff_exists'.1 hj
    obtain ⟨b, hb1, hb2, _⟩ := hsome j X hX
    show (picks s (pos l) l)[j]? ≠ none
    rw [picks_get, hb1]
    simp
  · obtain ⟨b, xb, hi, hb, hxb, rfl⟩ := hget id x h3
    obtain ⟨cs1, v1, _⟩ := view_ren h4
    exact hF b o' r xb cs1 (by rw [← hat id b hi]; exact h1) h2 (by rw [hh b hb]; exact hxb) v1

theorem compact_sound {ρ : Rho} {s : St} {w : World} {n : Nat} {vs vs' : List AV} {s' : St} (k : InvC ρ s w) (hn : n ≤ s.length) (e : compact n vs s = some (vs', s')) :
    n ≤ s'.length ∧ ∃ ρ', PostC n ρ s w ρ' s' w ∧ (∀ us, Rels ρ vs us → Rels ρ' vs' us) ∧ (∀ arr, TR ρ vs arr → TR ρ' vs' arr) := by
  unfold compact at e
  simp only at e
  generalize hl : reach s (s.length * s.length + 100) (idsEs (s.take n) ++ idsVs vs) (upto n) = l at e
  split at e
  · rename_i hchk
    cases e
    simp only [Bool.and_eq_true] at hchk
    obtain ⟨hc, hpre⟩ := hchk
    have hpre := eqNats_eq hpre
    have hgetn : ∀ i, i < n → l[i]? = some i := fun i hi => by
      have h1 := upto_get n i hi
      rw [← hpre, List.getElem?_take, if_pos hi] at h1
      exact h1
    have hln : n ≤ l.length := by
      rcases Nat.lt_or_ge l.length n with h | h
      · have := hgetn l.length h
        rw [List.getElem?_eq_none (Nat.le_refl _)] at this; cases this
      · exact h
    obtain ⟨ρ0, hinv, hpos, hat, hfz, hatn⟩ := pick_inv (vs := vs) k.hr (fun b hb => rfl) hc
    have hc' := hc
    simp only [closedL, Bool.and_eq_true] at hc'
    have hmem := allMem_iff.1 hc'.1
    have hents := entsMem_spec hc'.2.1
    have hfz' : ∀ B o v, ρ.fz B o = some v → ρ0.fz B o = some v := fun B o v e => by rw [hfz]; exact e
    have hm : ∀ b ∈ idsVs vs, ∀ x, ρ b = some x → ρ0 (pos l b) = some x := fun b hb x hx => by rw [hpos b (hmem b hb)]; exact hx
    have back : ∀ j x v o r B, ρ0 j = some (B, o, r) → hpS (picks s (pos l) l) j = some x → x.view = some v → ∃ b y cs, ρ b = some (B, o, r) ∧ s[b]? = some y ∧ y.view = some (v.1, cs) := fun j x v o r B h1 h2 h3 => by
      have h2 : (picks s (pos l) l)[j]? = some x := h2
      rw [picks_get] at h2
      cases hj : l[j]? with
      | none => rw [hj] at h2; cases h2
      | some b =>
        obtain ⟨y, hy, _⟩ := hents b (List.mem_of_getElem? hj)
        rw [hj] at h2
        simp only [Option.map_some, hy, Option.some.injEq] at h2
        subst h2
        obtain ⟨cs, v1, _⟩ := view_ren h3
        exact ⟨b, y, cs, by rw [← hat j b hj]; exact h1, hy, v1⟩
    refine ⟨by rw [picks_length]; exact hln, ρ0, ⟨hinv, fun i hi => hat i i (hgetn i hi), hfz', by rw [picks_length]; exact hln, rfl, rfl, rfl, Nat.le_refl _, fun B hB hF => ⟨rfl, fun j o r x cs h1 h2 h3 h4 => ?_⟩, fun B hB hF j o r x v h1 h2 h3 h4 => ?_, fun B o v e => .inl (by rw [hfz] at e; exact e)⟩, fun us hus => Rels.ren hfz' vs us hm hus, fun arr harr => TR.ren hfz' hm harr⟩
    · obtain ⟨b, y, cs', k1, k2, k3⟩ := back j x _ o r B h1 h3 h4
      exact hF b o r y cs' k1 h2 k2 k3
    · obtain ⟨b, y, cs', k1, k2, k3⟩ := back j x _ o r B h1 h3 h4
      exact hF b o r y _ k1 h2 k2 k3
  · cases e
end Go.Sy
