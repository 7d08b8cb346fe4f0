/- What writes memory. -/
import Derived.Test.YtekedhfmdpbplaaDenF
set_option linter.unusedSimpArgs false
set_option linter.unusedVariables false
namespace Go.Den
open Go

theorem beq_false_ne {a b : Nat} (h : Nat.beq a b = false) : a ≠ b := fun e => by subst e; simp at h
theorem beq_true_eq {a b : Nat} (h : Nat.beq a b = true) : a = b := Nat.eq_of_beq_eq_true h

structure Poisoned (b lo hi : Nat) (ms : List Nat) (h : Tr Ent) (ms' : List Nat) (h' : Tr Ent) : Prop where
  sub : ∀ m, m ∈ ms' → m ∈ ms
  same : ∀ i, h'.get i = h.get i ∨ (h'.get i = some .dead ∧ i ∈ ms ∧ i ≠ b ∧ ∃ ro x cs, h.get i = some (.cells ro (some x) cs))
  keep : ∀ m, m ∈ ms → m ≠ b → ∀ ro rt base cs, h'.get m = some (.cells ro (some (rt, base)) cs) → m ∈ ms' ∧ (hi ≤ base ∨ base + cs.length ≤ lo)
  self : b ∈ ms → b ∈ ms'
theorem poison_spec (b lo hi : Nat) : ∀ (ms : List Nat) (h : Tr Ent) (ms' : List Nat) (h' : Tr Ent), poison b lo hi ms h = (ms', h') → Poisoned b lo hi ms h ms' h'
  | [], h, ms', h', e => by
    simp only [poison, Prod.mk.injEq] at e
    obtain ⟨rfl, rfl⟩ := e
    exact ⟨fun m hm => hm, fun i => .inl rfl, fun m hm => (by cases hm), fun hm => hm⟩
  | m :: ms, h, ms', h', e => by
    simp only [poison] at e
    split at e
    · rename_i hm
      have hm' := beq_true_eq hm
      subst hm'
      generalize hp : poison m lo hi ms h = r at e
      obtain ⟨l, g⟩ := r
      simp only [Prod.mk.injEq] at e
      obtain ⟨rfl, rfl⟩ := e
      have ih := poison_spec m lo hi ms h l g hp
      refine ⟨fun x hx => ?_, fun i => ?_, fun x hx hne => ?_, fun _ => by simp⟩
      · rcases List.mem_cons.1 hx with rfl | hx
        · simp
        · exact List.mem_cons_of_mem _ (ih.sub x hx)
      · rcases ih.same i with h1 | ⟨h1, h2, h3, h4⟩
        · exact .inl h1
        · exact .inr ⟨h1, List.mem_cons_of_mem _ h2, h3, h4⟩
      · rcases List.mem_cons.1 hx with rfl | hx
        · exact absurd rfl hne
        · intro ro rt base cs hg
          obtain ⟨k1, k2⟩ := ih.keep x hx hne ro rt base cs hg
          exact ⟨List.mem_cons_of_mem _ k1, k2⟩
    · rename_i hm
      have hm' := beq_false_ne hm
      split at e
      · rename_i ro0 rt0 base0 cs0 hg0
        split at e
        · rename_i hk
          generalize hp : poison b lo hi ms h = r at e
          obtain ⟨l, g⟩ := r
          simp only [Prod.mk.injEq] at e
          obtain ⟨rfl, rfl⟩ := e
          have ih := poison_spec b lo hi ms h l g hp
          refine ⟨fun x hx => ?_, fun i => ?_, fun x hx hne => ?_, fun hb => ?_⟩
          · rcases List.mem_cons.1 hx with rfl | hx
            · simp
            · exact List.mem_cons_of_mem _ (ih.sub x hx)
          · rcases ih.same i with h1 | ⟨h1, h2, h3, h4⟩
            · exact .inl h1
            · exact .inr ⟨h1, List.mem_cons_of_mem _ h2, h3, h4⟩
          · intro ro rt base cs hg
            rcases List.mem_cons.1 hx with rfl | hx
            · rcases ih.same x with h1 | ⟨h1, _⟩
              · rw [h1, hg0] at hg
                simp only [Option.some.injEq, Ent.cells.injEq, Prod.mk.injEq] at hg
                obtain ⟨_, ⟨_, rfl⟩, rfl⟩ := hg
                refine ⟨by simp, ?_⟩
                simp only [Bool.or_eq_true] at hk
                exact hk.imp Nat.le_of_ble_eq_true Nat.le_of_ble_eq_true
              · rw [h1] at hg; cases hg
            · obtain ⟨k1, k2⟩ := ih.keep x hx hne ro rt base cs hg
              exact ⟨List.mem_cons_of_mem _ k1, k2⟩
          · rcases List.mem_cons.1 hb with rfl | hb
            · exact absurd rfl hm'
            · exact List.mem_cons_of_mem _ (ih.self hb)
        · rename_i hk
          have ih := poison_spec b lo hi ms (h.set m .dead) ms' h' e
          refine ⟨fun x hx => List.mem_cons_of_mem _ (ih.sub x hx), fun i => ?_, fun x hx hne => ?_, fun hb => ?_⟩
          · by_cases him : i = m
            · subst him
              right
              refine ⟨?_, by simp, hm', _, _, _, hg0⟩
              rcases ih.same i with h1 | ⟨h1, _⟩
              · rw [h1, Tr.get_set, if_pos rfl]
              · exact h1
            · rcases ih.same i with h1 | ⟨h1, h2, h3, h4⟩
              · left; rw [h1, Tr.get_set, if_neg (fun e => him e.symm)]
              · right; refine ⟨h1, List.mem_cons_of_mem _ h2, h3, ?_⟩; rwa [Tr.get_set, if_neg (fun e => him e.symm)] at h4
          · intro ro rt base cs hg
            by_cases hxm : x = m
            · subst hxm
              exfalso
              rcases ih.same x with h1 | ⟨h1, _⟩
              · rw [h1, Tr.get_set, if_pos rfl] at hg; cases hg
              · rw [h1] at hg; cases hg
            · rcases List.mem_cons.1 hx with rfl | hx
              · exact absurd rfl hxm
              · exact ih.keep x hx hne ro rt base cs hg
          · rcases List.mem_cons.1 hb with rfl | hb
            · exact absurd rfl hm'
            · exact ih.self hb
      · rename_i hnot
        have ih := poison_spec b lo hi ms h ms' h' e
        refine ⟨fun x hx => List.mem_cons_of_mem _ (ih.sub x hx), fun i => ?_, fun x hx hne => ?_, fun hb => ?_⟩
        · rcases ih.same i with h1 | ⟨h1, h2, h3, h4⟩
          · exact .inl h1
          · exact .inr ⟨h1, List.mem_cons_of_mem _ h2, h3, h4⟩
        · intro ro rt base cs hg
          by_cases hxm : x = m
          · subst hxm
            exfalso
            rcases ih.same x with h1 | ⟨h1, _⟩
            · exact hnot ro rt base cs (by rw [← h1]; exact hg)
            · rw [h1] at hg; cases hg
          · rcases List.mem_cons.1 hx with rfl | hx
            · exact absurd rfl hxm
            · exact ih.keep x hx hne ro rt base cs hg
        · rcases List.mem_cons.1 hb with rfl | hb
          · exact absurd rfl hm'
          · exact ih.self hb

/- ### the real side of a write -/
theorem setCells_heap_other (b : Nat) : ∀ (vs : List Value) (o : Nat) (w : World) (k : Nat), k ≠ b → (w.setCells b o vs).heap[k]? = w.heap[k]?
  | [], _, _, _, _ => rfl
  | v :: r, o, w, k, h => by
    rw [World.setCells, setCells_heap_other b r _ _ _ h]
    simp only [World.setCell, Array.getElem?_modify]
    rw [if_neg (fun e => h e.symm)]
theorem setCells_size (b : Nat) : ∀ (vs : List Value) (o : Nat) (w : World), (w.setCells b o vs).heap.size = w.heap.size
  | [], _, _ => rfl
  | v :: r, o, w => by rw [World.setCells, setCells_size b r]; simp
theorem setCells_env (b : Nat) : ∀ (vs : List Value) (o : Nat) (w : World), (w.setCells b o vs).os = w.os ∧ (w.setCells b o vs).tape = w.tape ∧ (w.setCells b o vs).output = w.output
  | [], _, _ => ⟨rfl, rfl, rfl⟩
  | v :: r, o, w => by rw [World.setCells]; exact setCells_env b r _ _
theorem setCells_isSome (b : Nat) : ∀ (vs : List Value) (o : Nat) (w : World) (x : Addr), (w.cell? x).isSome = true → ((w.setCells b o vs).cell? x).isSome = true
  | [], _, _, _, h => h
  | v :: r, o, w, x, h => by
    rw [World.setCells]
    refine setCells_isSome b r _ _ _ ?_
    by_cases e : (⟨b, o, none⟩ : Addr) = x
    · subst e
      obtain ⟨u, hu⟩ := Option.isSome_iff_exists.1 h
      rw [World.cell?_setCell_same _ _ _ hu]; rfl
    · rw [World.cell?_setCell_other _ _ _ _ e]; exact h

/-- The part of a block's cells that is written anew. -/
theorem Holds.written {ρ : Rho} {w : World} {B o r : Nat} {cs as : List AV} {vs : List Value} {off : Nat} (h : Holds ρ w B o r false cs) (hv : Rels ρ as vs) (hfit : off + as.length ≤ cs.length) :
    Holds ρ (w.setCells B (o + off) vs) B o r false (writeL cs off as) where
  fit := by rw [writeL_length _ _ _ hfit]; exact h.fit
  lt := by rw [setCells_size]; exact h.lt
  vals := by
    obtain ⟨us, h1, h2⟩ := h.vals
    have hl := h1.length
    have hl2 := hv.length
    have hfr := h.fit
    refine ⟨writeV us off vs, h1.write hv, fun i v e => ?_⟩
    unfold writeV at e
    by_cases hi1 : i < off
    · rw [List.getElem?_append_left (by simp; omega), List.getElem?_take, if_pos hi1] at e
      rw [World.cell?_setCells_out _ _ _ _ _ (fun _ _ => by left; simp; omega)]
      exact h2 i v e
    · rw [List.getElem?_append_right (by simp; omega)] at e
      by_cases hi2 : i < off + vs.length
      · rw [List.getElem?_append_left (by simp; omega)] at e
        have hidx : i - (List.take off us).length = i - off := by simp; omega
        rw [hidx] at e
        have hj : i - off < vs.length := by omega
        have := World.cell?_setCells_in B vs (o + off) w (fun j hj' => by rw [show o + off + j = o + (off + j) by omega]; exact h.there (off + j) (by omega)) (i - off) hj
        rw [show o + off + (i - off) = o + i by omega] at this
        rw [this]
        rw [List.getElem?_eq_getElem hj] at e
        exact e
      · rw [List.getElem?_append_right (by simp; omega), List.getElem?_drop] at e
        rw [World.cell?_setCells_out _ _ _ _ _ (fun _ _ => by right; simp; omega)]
        refine h2 i v ?_
        rw [← e]; congr 1; simp; omega
  there := fun j hj => setCells_isSome _ _ _ _ _ (h.there j hj)
  free := fun e j hj => by rw [World.frozen?_setCells]; exact h.free e j hj
/-- What does not reach into the part that is written. -/
theorem Holds.beside {ρ : Rho} {w : World} {B o r B' o' : Nat} {ro : Bool} {cs : List AV} {vs : List Value} (h : Holds ρ w B o r ro cs) (hd : B' = B → o + cs.length ≤ o' ∨ o' + vs.length ≤ o) :
    Holds ρ (w.setCells B' o' vs) B o r ro cs where
  fit := h.fit
  lt := by rw [setCells_size]; exact h.lt
  vals := by
    obtain ⟨us, h1, h2⟩ := h.vals
    refine ⟨us, h1, fun i v e => ?_⟩
    have hi := (List.getElem?_eq_some_iff.1 e).1
    have hl := h1.length
    rw [World.cell?_setCells_out _ _ _ _ _ (fun eB _ => by
      have := hd eB.symm
      simp only
      omega)]
    exact h2 i v e
  there := fun j hj => setCells_isSome _ _ _ _ _ (h.there j hj)
  free := fun e j hj => by rw [World.frozen?_setCells]; exact h.free e j hj

theorem St.get_lt {st : St} {h : Hp} (ha : Agree st h) {id : Nat} {e : Ent} (he : st.get id = some e) : id < st.n := by
  rcases Nat.lt_or_ge id st.n with h1 | h1
  · exact h1
  · rw [ha.wf id h1] at he; cases he

theorem write_sound {P : Program} {ρ : Rho} {h : Hp} {w : World} {st st' : St} {b off B o r : Nat} {as : List AV} {vs : List Value} (hr : HR ρ h w) (ha : Agree st h) (hρ : ρ b = some (B, o, r))
    (hw : st.write b off as = some st') (hv : Rels ρ as vs) :
    (storeCells ⟨B, o + off, none⟩ vs).run P w = .ok () (w.setCells B (o + off) vs) ∧ Post ρ h w st ρ (upd st' h) (w.setCells B (o + off) vs) st' ∧ st'.n = st.n := by
  unfold St.write at hw
  split at hw
  · rename_i fam cs hb
    split at hw
    · cases hw
    · rename_i hchk
      simp only [Bool.and_eq_true] at hchk
      have hfit := Nat.le_of_ble_eq_true hchk.1
      have hsc := hchk.2
      have hbn := St.get_lt ha hb
      have hhb : h b = some (.cells false fam cs) := by rw [ha.eq b hbn]; exact hb
      have H := hr.cell b B o r false fam cs hρ hhb
      have hvl := hv.length
      have hHf := H.fit
      have hstore : (storeCells ⟨B, o + off, none⟩ vs).run P w = .ok () (w.setCells B (o + off) vs) := by
        have := run_storeCells_cells (P := P) B (o + off) vs 0 w
          (fun j hj => by rw [show o + off + 0 + j = o + (off + j) by omega]; exact H.there _ (by omega))
          (fun j hj => by rw [show o + off + 0 + j = o + (off + j) by omega]; exact H.free rfl _ (by omega))
          (hv.oneCell hsc)
        simpa using this
      -- what the new abstract heap is
      have key : ∃ (g : Tr Ent), st' = { st with h := g } ∧ g.get b = some (.cells false fam (writeL cs off as)) ∧
          (∀ i, i ≠ b → (g.get i = st.get i) ∨ (∃ rt base ms ms', fam = some (rt, base) ∧ st.get rt = some (.fam ms) ∧ i = rt ∧ g.get i = some (.fam ms')) ∨
             (∃ rt base ms, fam = some (rt, base) ∧ st.get rt = some (.fam ms) ∧ i ∈ ms ∧ g.get i = some .dead ∧ ∃ ro x c, st.get i = some (.cells ro (some x) c))) ∧
          (∀ rt base, fam = some (rt, base) → ∃ ms ms', st.get rt = some (.fam ms) ∧ g.get rt = some (.fam ms') ∧ (∀ m, m ∈ ms' → m ∈ ms) ∧ (b ∈ ms → b ∈ ms') ∧
             ∀ m, m ∈ ms → m ≠ b → ∀ ro rt' base' c, g.get m = some (.cells ro (some (rt', base')) c) → m ∈ ms' ∧ (base + off + as.length ≤ base' ∨ base' + c.length ≤ base + off)) := by
        cases fam with
        | none =>
          simp only [Option.some.injEq] at hw
          refine ⟨_, hw.symm, by rw [Tr.get_set, if_pos rfl], fun i hi => .inl (by rw [Tr.get_set, if_neg (fun e => hi e.symm)]; rfl), fun rt base e => by cases e⟩
        | some p =>
          obtain ⟨rt, base⟩ := p
          simp only at hw
          split at hw
          · rename_i ms hms
            generalize hp : poison b (base + off) (base + off + as.length) ms st.h = q at hw
            obtain ⟨ms', g⟩ := q
            simp only [Option.some.injEq] at hw
            have PS := poison_spec _ _ _ _ _ _ _ hp
            have hne : rt ≠ b := fun e => by rw [e, hb] at hms; cases hms
            have hrt : g.get rt = some (.fam ms) := by
              rcases PS.same rt with e | ⟨_, _, _, ro, x, c, e⟩
              · rw [e]; exact hms
              · have : st.get rt = some (.cells ro (some x) c) := e
                rw [hms] at this; cases this
            refine ⟨_, hw.symm, by rw [Tr.get_set, if_pos rfl], fun i hi => ?_, fun rt' base' e => ?_⟩
            · rw [Tr.get_set, if_neg (fun e => hi e.symm), Tr.get_set]
              by_cases hir : i = rt
              · subst hir
                rw [if_pos rfl]
                exact .inr (.inl ⟨i, base, ms, ms', rfl, hms, rfl, rfl⟩)
              · rw [if_neg (fun e => hir e.symm)]
                rcases PS.same i with e | ⟨e1, e2, e3, e4⟩
                · exact .inl e
                · exact .inr (.inr ⟨rt, base, ms, rfl, hms, e2, e1, e4⟩)
            · cases e
              refine ⟨ms, ms', hms, by rw [Tr.get_set, if_neg (fun e => hne e.symm), Tr.get_set, if_pos rfl], PS.sub, PS.self, fun m hm hmb ro rt' base' c hg => ?_⟩
              rw [Tr.get_set, if_neg (fun e => hmb e.symm), Tr.get_set] at hg
              split at hg
              · cases hg
              · exact PS.keep m hm hmb ro rt' base' c hg
          · cases hw
      obtain ⟨g, rfl, kb, kother, kfam⟩ := key
      have hupd : ∀ i, i < st.n → upd { st with h := g } h i = g.get i := fun i hi => by unfold upd; rw [if_pos hi]; rfl
      have hupd2 : ∀ i, ¬ i < st.n → upd { st with h := g } h i = h i := fun i hi => by unfold upd; rw [if_neg hi]
      -- an entry of cells other than b's is an old one
      have old : ∀ i ro f c, i ≠ b → upd { st with h := g } h i = some (.cells ro f c) → h i = some (.cells ro f c) := fun i ro f c hi e => by
        by_cases hn : i < st.n
        · rw [hupd i hn] at e
          rcases kother i hi with k | ⟨_, _, _, _, _, _, _, k⟩ | ⟨_, _, _, _, _, _, k, _⟩
          · rw [ha.eq i hn, ← k]; exact e
          · rw [k] at e; cases e
          · rw [k] at e; cases e
        · rw [hupd2 i hn] at e; exact e
      have hub : upd { st with h := g } h b = some (.cells false fam (writeL cs off as)) := by rw [hupd b hbn]; exact kb
      have hmem : ∀ i B' o' r' ro f c, i ≠ b → ρ i = some (B', o', r') → upd { st with h := g } h i = some (.cells ro f c) → B' = B →
          ∃ rt base base', fam = some (rt, base) ∧ f = some (rt, base') ∧ o' + base = o + base' ∧ (base + off + as.length ≤ base' ∨ base' + c.length ≤ base + off) := fun i B' o' r' ro f c hi h1 h2 hB => by
        subst hB
        obtain ⟨rt, b1, b2, e1, e2, e3⟩ := hr.apart i b B' o' r' o r ro false f fam c cs hi h1 hρ (old i ro f c hi h2) hhb (.inr rfl)
        subst e1 e2
        obtain ⟨ms, ms', k1, k2, k3, k4, k5⟩ := kfam rt b2 rfl
        obtain ⟨_, ms0, f1, f2, f3⟩ := hr.fam i rt b1 _ ro c h1 (old i ro _ c hi h2)
        have hrtn := St.get_lt ha k1
        have : ms0 = ms := by rw [ha.eq rt hrtn, k1] at f1; cases f1; rfl
        subst this
        have hin : i < st.n := ha.mem rt ms0 k1 i f2
        rw [hupd i hin] at h2
        exact ⟨rt, b2, b1, rfl, rfl, e3, (k5 i f2 hi ro rt b1 c h2).2⟩
      have hlive : ∀ i, ρ i ≠ none → upd { st with h := g } h i ≠ none ∧ ∀ ms, upd { st with h := g } h i ≠ some (.fam ms) := fun i hi => by
        by_cases hib : i = b
        · subst hib; rw [hub]; simp
        · by_cases hn : i < st.n
          · rw [hupd i hn]
            rcases kother i hib with k | ⟨rt, base, ms, ms', _, k1, rfl, _⟩ | ⟨_, _, _, _, _, _, k, _⟩
            · rw [k, ← ha.eq i hn]; exact hr.ent i hi
            · exact absurd (by rw [ha.eq i hn]; exact k1) ((hr.ent i hi).2 ms)
            · rw [k]; simp
          · rw [hupd2 i hn]; exact hr.ent i hi
      have hHR : HR ρ (upd { st with h := g } h) (w.setCells B (o + off) vs) := by
        refine ⟨?_, ?_, ?_, hlive⟩
        · intro i B' o' r' ro f c h1 h2
          by_cases hib : i = b
          · subst hib
            rw [hρ] at h1; cases h1
            rw [hub] at h2; cases h2
            exact H.written hv hfit
          · refine (hr.cell i B' o' r' ro f c h1 (old i ro f c hib h2)).beside (fun hB => ?_)
            obtain ⟨rt, base, base', _, _, e3, e4⟩ := hmem i B' o' r' ro f c hib h1 h2 hB.symm
            omega
        · intro i j B' o1 r1 o2 r2 ro1 ro2 f1 f2 c1 c2 hij h1 h2 h3 h4 h5
          by_cases hib : i = b
          · subst hib
            rw [hρ] at h1; cases h1
            rw [hub] at h3; cases h3
            exact hr.apart i j B o r o2 r2 false ro2 fam f2 cs c2 hij hρ h2 hhb (old j ro2 f2 c2 (fun e => hij e.symm) h4) (.inl rfl)
          · by_cases hjb : j = b
            · subst hjb
              rw [hρ] at h2; cases h2
              rw [hub] at h4; cases h4
              exact hr.apart i j B o1 r1 o r ro1 false f1 fam c1 cs hij h1 hρ (old i ro1 f1 c1 hib h3) hhb (.inr rfl)
            · exact hr.apart i j B' o1 r1 o2 r2 ro1 ro2 f1 f2 c1 c2 hij h1 h2 (old i ro1 f1 c1 hib h3) (old j ro2 f2 c2 hjb h4) h5
        · intro i rt b1 x ro c h1 h2
          have hold : h i = some (.cells ro (some (rt, b1)) (if i = b then cs else c)) := by
            by_cases hib : i = b
            · subst hib
              rw [if_pos rfl]
              rw [hub] at h2
              simp only [Option.some.injEq, Ent.cells.injEq] at h2
              obtain ⟨rfl, rfl, _⟩ := h2
              exact hhb
            · rw [if_neg hib]; exact old i ro _ c hib h2
          obtain ⟨e1, ms0, f1, f2, f3⟩ := hr.fam i rt b1 x ro _ h1 hold
          refine ⟨e1, ?_⟩
          by_cases hrn : rt < st.n
          · rw [ha.eq rt hrn] at f1
            have hrb : rt ≠ b := fun e => by rw [e, hb] at f1; cases f1
            rcases kother rt hrb with k | ⟨rt', base, ms, ms', k0, k1, rfl, k2⟩ | ⟨_, _, _, _, _, _, _, ro', x', c', k⟩
            · exact ⟨ms0, by rw [hupd rt hrn, k]; exact f1, f2, f3⟩
            · obtain ⟨ms1, ms1', j1, j2, j3, j4, j5⟩ := kfam rt base k0
              rw [j1] at f1; cases f1
              refine ⟨ms1', by rw [hupd rt hrn]; exact j2, ?_, fun m hm => f3 m (j3 m hm)⟩
              by_cases hib : i = b
              · rw [hib]; exact j4 (by rw [← hib]; exact f2)
              · have hin : i < st.n := ha.mem rt ms0 j1 i f2
                rw [hupd i hin] at h2
                exact (j5 i f2 hib ro rt b1 c h2).1
            · rw [f1] at k; cases k
          · exact ⟨ms0, by rw [hupd2 rt hrn]; exact f1, f2, f3⟩
      have henv := setCells_env B vs (o + off) w
      refine ⟨hstore, ⟨fun _ _ e => e, fun id e => absurd rfl e, rfl, hHR, ⟨fun id hid => by rw [hupd id hid]; rfl, fun id hid => ?_, fun i ro rt b1 c hc => ?_, fun rt ms hms m hm => ?_⟩, Nat.le_refl _, henv.1, henv.2.1, henv.2.2, by rw [setCells_size]; exact Nat.le_refl _, fun B' hB' hf => ?_, fun id hid hρi hnf => ?_⟩, rfl⟩
      · show g.get id = none
        have hib : id ≠ b := fun e => by subst e; simp only at hid; omega
        rcases kother id hib with k | ⟨rt, base, ms, ms', _, k1, rfl, _⟩ | ⟨_, _, ms, _, k1, k2, _, _⟩
        · rw [k]; exact ha.wf id hid
        · have := St.get_lt ha k1; simp only at hid; omega
        · have := ha.mem _ ms k1 id k2; simp only at hid; omega
      · show rt < st.n
        have hc' : g.get i = some (.cells ro (some (rt, b1)) c) := hc
        by_cases hib : i = b
        · subst hib
          rw [kb] at hc'
          simp only [Option.some.injEq, Ent.cells.injEq] at hc'
          obtain ⟨_, rfl, _⟩ := hc'
          exact ha.ref _ _ _ _ _ hb
        · rcases kother i hib with k | ⟨_, _, _, _, _, _, _, k⟩ | ⟨_, _, _, _, _, _, k, _⟩
          · rw [k] at hc'; exact ha.ref i ro rt b1 c hc'
          · rw [k] at hc'; cases hc'
          · rw [k] at hc'; cases hc'
      · show m < st.n
        have hms' : g.get rt = some (.fam ms) := hms
        by_cases hrb : rt = b
        · rw [hrb, kb] at hms'; cases hms'
        · rcases kother rt hrb with k | ⟨rt', base, ms1, ms1', k0, k1, rfl, k2⟩ | ⟨_, _, _, _, _, _, k, _⟩
          · rw [k] at hms'; exact ha.mem rt ms hms' m hm
          · obtain ⟨ms2, ms2', j1, j2, j3, _⟩ := kfam rt base k0
            rw [hms'] at j2; cases j2
            exact ha.mem rt ms2 j1 m (j3 m hm)
          · rw [k] at hms'; cases hms'
      · have hBB : B' ≠ B := fun e => by
          subst e
          obtain ⟨f', c', e'⟩ := hf b o r hρ
          rw [hhb] at e'; cases e'
        refine ⟨setCells_heap_other _ _ _ _ _ hBB, fun id o' r' h1 => ?_⟩
        obtain ⟨f', c', e'⟩ := hf id o' r' h1
        have hib : id ≠ b := fun e => by subst e; rw [hhb] at e'; cases e'
        refine ⟨f', c', ?_⟩
        by_cases hn : id < st.n
        · rw [hupd id hn]
          rw [ha.eq id hn] at e'
          rcases kother id hib with k | ⟨rt, base, ms, ms', _, k1, rfl, _⟩ | ⟨rt, base, ms, k0, k1, k2, k3, ro, x, c, k4⟩
          · rw [k]; exact e'
          · rw [k1] at e'; cases e'
          · exfalso
            rw [k4] at e'
            simp only [Option.some.injEq, Ent.cells.injEq] at e'
            obtain ⟨rfl, _, _⟩ := e'
            have := hr.fam id x.1 x.2 _ true c h1 (by rw [ha.eq id hn]; exact k4)
            cases this.1
        · rw [hupd2 id hn]; exact e'
      · show g.get id = st.get id
        have hib : id ≠ b := fun e => by subst e; rw [hρ] at hρi; cases hρi
        rcases kother id hib with k | ⟨rt, base, ms, ms', _, k1, rfl, _⟩ | ⟨rt, base, ms, k0, k1, k2, _, _⟩
        · exact k
        · exact absurd k1 (hnf ms)
        · exfalso
          subst k0
          obtain ⟨_, ms0, f1, f2, f3⟩ := hr.fam b rt base _ false cs hρ hhb
          have hrtn := St.get_lt ha k1
          rw [ha.eq rt hrtn, k1] at f1; cases f1
          exact f3 id k2 hρi
  · cases hw

end Go.Den
