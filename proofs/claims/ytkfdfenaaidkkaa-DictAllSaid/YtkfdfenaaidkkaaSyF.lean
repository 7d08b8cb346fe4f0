/- Writes and new blocks; reads. -/
import Derived.Test.YtkfdfenaaidkkaaSyE
set_option linter.unusedSimpArgs false
set_option linter.unusedVariables false
namespace Go.Sy
open Go

/- ### the real side of a write -/
theorem setCells_heap_other (b : Nat) : ∀ (vs : List Value) (o : Nat) (w : World) (k : Nat), k ≠ b → (w.setCells b o vs).heap[k]? = w.heap[k]?
  | [], _, _, _, _ => rfl
  | v :: r, o, w, k, h => by
    rw [World.setCells, setCells_heap_other b r _ _ _ h]
    simp only [World.setCell, Array.getElem?_modify]
    rw [if_neg (fun e => h e.symm)]
theorem setCells_size (b : Nat) : ∀ (vs : List Value) (o : Nat) (w : World), (w.setCells b o vs).heap.size = w.heap.size
  | [], _, _ => rfl
  | v :: r, o, w => by rw [World.setCells, setCells_size b r]; simp
theorem setCells_env (b : Nat) : ∀ (vs : List Value) (o : Nat) (w : World), (w.setCells b o vs).os = w.os ∧ (w.setCells b o vs).tape = w.tape ∧ (w.setCells b o vs).output = w.output
  | [], _, _ => ⟨rfl, rfl, rfl⟩
  | v :: r, o, w => by rw [World.setCells]; exact setCells_env b r _ _
theorem setCells_isSome (b : Nat) : ∀ (vs : List Value) (o : Nat) (w : World) (x : Addr), (w.cell? x).isSome = true → ((w.setCells b o vs).cell? x).isSome = true
  | [], _, _, _, h => h
  | v :: r, o, w, x, h => by
    rw [World.setCells]
    refine setCells_isSome b r _ _ _ ?_
    by_cases e : (⟨b, o, none⟩ : Addr) = x
    · subst e
      obtain ⟨u, hu⟩ := Option.isSome_iff_exists.1 h
      rw [World.cell?_setCell_same _ _ _ hu]; rfl
    · rw [World.cell?_setCell_other _ _ _ _ e]; exact h


theorem writeV_length (us vs : List Value) (off : Nat) (h : off + vs.length ≤ us.length) : (writeV us off vs).length = us.length := by
  simp [writeV]; omega
/-- Some of a block's cells are written anew. -/
theorem Holds.written {ρ : Rho} {w : World} {B o r : Nat} {cs cs' : List AV} {vs : List Value} {off : Nat} (h : Holds ρ w B o r false cs) (hfit : off + vs.length ≤ cs.length) (hlen : cs'.length = cs.length) (hv : ∀ us, Rels ρ cs us → Rels ρ cs' (writeV us off vs)) :
    Holds ρ (w.setCells B (o + off) vs) B o r false cs' where
  fit := by rw [hlen]; exact h.fit
  lt := by rw [setCells_size]; exact h.lt
  vals := by
    obtain ⟨us, h1, h2, _⟩ := h.vals
    have hl := h1.length
    have hfr := h.fit
    refine ⟨writeV us off vs, hv us h1, fun i v e => ?_, fun e => by cases e⟩
    unfold writeV at e
    by_cases hi1 : i < off
    · rw [List.getElem?_append_left (by simp; omega), List.getElem?_take, if_pos hi1] at e
      rw [World.cell?_setCells_out _ _ _ _ _ (fun _ _ => by left; simp; omega)]
      exact h2 i v e
    · rw [List.getElem?_append_right (by simp; omega)] at e
      by_cases hi2 : i < off + vs.length
      · rw [List.getElem?_append_left (by simp; omega)] at e
        have hidx : i - (List.take off us).length = i - off := by simp; omega
        rw [hidx] at e
        have hj : i - off < vs.length := by omega
        have := World.cell?_setCells_in B vs (o + off) w (fun j hj' => by rw [show o + off + j = o + (off + j) by omega]; exact h.there (off + j) (by omega)) (i - off) hj
        rw [show o + off + (i - off) = o + i by omega] at this
        rw [this]
        rw [List.getElem?_eq_getElem hj] at e
        exact e
      · rw [List.getElem?_append_right (by simp; omega), List.getElem?_drop] at e
        rw [World.cell?_setCells_out _ _ _ _ _ (fun _ _ => by right; simp; omega)]
        refine h2 i v ?_
        rw [← e]; congr 1; simp; omega
  there := fun j hj => setCells_isSome _ _ _ _ _ (h.there j hj)
  free := fun e h0 j => by rw [World.frozen?_setCells]; exact h.free e h0 j
/-- Behind the cells of a block others are written: they belong to it now; the first ones are left off. -/
theorem Holds.extended {ρ : Rho} {w : World} {B o r : Nat} {ro : Bool} {cs as : List AV} {vs : List Value} {off n : Nat} (h : Holds ρ w B o r ro cs) (hro : ro = false) (hlen : as.length = n + vs.length) (hv : ∀ us, Rels ρ cs us → Rels ρ as ((us.drop off).take n ++ vs)) (hn : off + n ≤ cs.length) (hfit : off + n + vs.length ≤ r) :
    Holds ρ (w.setCells B (o + (off + n)) vs) B (o + off) (r - off) false as where
  fit := by omega
  lt := fun hr => by rw [setCells_size]; exact h.lt (by omega)
  vals := by
    obtain ⟨us, h1, h2, _⟩ := h.vals
    have hl := h1.length
    refine ⟨(us.drop off).take n ++ vs, hv us h1, fun i v e => ?_, fun e => by cases e⟩
    by_cases hi1 : i < n
    · rw [List.getElem?_append_left (by simp; omega), List.getElem?_take, if_pos hi1, List.getElem?_drop] at e
      rw [World.cell?_setCells_out _ _ _ _ _ (fun _ _ => by left; simp; omega)]
      rw [Nat.add_assoc]
      exact h2 _ v e
    · rw [List.getElem?_append_right (by simp; omega)] at e
      have hlen : ((us.drop off).take n).length = n := by simp; omega
      rw [hlen] at e
      have hj : i - n < vs.length := (List.getElem?_eq_some_iff.1 e).1
      have := World.cell?_setCells_in B vs (o + (off + n)) w (fun j hj' => by rw [show o + (off + n) + j = o + (off + n + j) by omega]; exact h.there _ (by omega)) (i - n) hj
      rw [show o + (off + n) + (i - n) = o + off + i by omega] at this
      rw [this]
      rw [List.getElem?_eq_getElem hj] at e
      exact e
  there := fun j hj => setCells_isSome _ _ _ _ _ (by rw [Nat.add_assoc]; exact h.there _ (by omega))
  free := fun e h0 j => by rw [World.frozen?_setCells]; exact h.free hro (by omega) j
/-- A new block. -/
theorem Holds.fresh {ρ : Rho} {w : World} {cs : List AV} {vs rest : List Value} {e : TypeId} (hrel : Rels ρ cs vs) : Holds ρ (w.alloc (.cells (vs ++ rest).toArray e)) w.heap.size 0 (vs.length + rest.length) false cs where
  fit := by rw [hrel.length]; omega
  lt := fun _ => by simp
  vals := ⟨vs, hrel, fun i v ev => by
    rw [World.cell?_alloc_new]
    simp only [Nat.zero_add, List.getElem?_toArray]
    rw [List.getElem?_append_left (List.getElem?_eq_some_iff.1 ev).1]
    exact ev, fun e => by cases e⟩
  there := fun j hj => by
    rw [World.cell?_alloc_new]
    simp only [Nat.zero_add, List.getElem?_toArray]
    rw [List.getElem?_eq_getElem (by simp; omega)]
    rfl
  free := fun _ _ j => World.frozen?_alloc_new _ _ _ _
theorem Holds.nothing {ρ : Rho} {w : World} {B o : Nat} : Holds ρ w B o 0 false [] where
  fit := Nat.le_refl _
  lt := fun h => absurd rfl h
  vals := ⟨[], Rels.nil, fun i v e => by simp at e, fun e => by cases e⟩
  there := fun j hj => by omega
  free := fun _ h0 j => absurd rfl h0
theorem Holds.mono {ρ ρ' : Rho} (hle : ρ.le ρ') {w : World} {B o r : Nat} {cs : List AV} (h : Holds ρ w B o r false cs) : Holds ρ' w B o r false cs where
  fit := h.fit
  lt := h.lt
  vals := by
    obtain ⟨vs, h1, h2, _⟩ := h.vals
    exact ⟨vs, Rels.mono hle _ _ h1, h2, fun e => by cases e⟩
  there := h.there
  free := h.free

theorem Rho.put_self {ρ : Rho} {n : Nat} {x : Nat × Nat × Nat} (h : ρ n = some x) : ρ.put n x = ρ := by
  unfold Rho.put
  have : (fun i => if i = n then some x else ρ i) = ρ.at_ := by
    funext i
    split
    · rename_i e; subst e; exact h.symm
    · rfl
  rw [this]

section
variable {P : Program} {ρ : Rho} {h : Hp} {w : World} {st : St}
/-- What else stands in a block that may be written. -/
theorem HR.alone (hr : HR ρ h w) {b B o r : Nat} {x : Ent} {cs : List AV} (hρ : ρ b = some (B, o, r)) (hb : h b = some x) (hv : x.view = some (false, cs)) (h0 : r ≠ 0) :
    (∀ i o' r' y v, i ≠ b → ρ i = some (B, o', r') → r' ≠ 0 → h i = some y → y.view = some v → False) ∧ (∀ o', ρ.fz B o' = none) ∧ ∀ B', Free ρ h B' → B' ≠ B := by
  refine ⟨fun i o' r' y v hi h1 h2 h3 h4 => ?_, fun o' => ?_, fun B' hF e => ?_⟩
  · obtain ⟨ro, cs'⟩ := v
    exact hr.apart i b B o' r' o r y x ro false cs' cs hi h1 hρ h2 h0 h3 hb h4 hv (.inr rfl)
  · cases e : ρ.fz B o' with
    | none => rfl
    | some v => exact (hr.fza B o' v e b o r x cs hρ h0 hb hv).elim
  · subst e; exact hF b o r x cs hρ h0 hb hv

theorem write_post (hr : HR ρ h w) (ha : Agree st h) {b off B o r : Nat} {x x' : Ent} {cs cs' : List AV} {vs : List Value} (hb : st[b]? = some x) (hv : x.view = some (false, cs)) (hρ : ρ b = some (B, o, r))
    (hfit : off + vs.length ≤ cs.length) (hone : ∀ v ∈ vs, v.oneCell' = true) (hlen : cs'.length = cs.length) (hrel : ∀ us, Rels ρ cs us → Rels ρ cs' (writeV us off vs)) (hx' : x'.view = some (false, cs')) :
    (storeCells ⟨B, o + off, none⟩ vs).run P w = .ok () (w.setCells B (o + off) vs) ∧ Post ρ h w st ρ (upd (st.set b x') h) (w.setCells B (o + off) vs) (st.set b x') := by
  have hbl : b < st.length := (List.getElem?_eq_some_iff.1 hb).1
  have hhb : h b = some x := by rw [ha b hbl]; exact hb
  have H := hr.cell b B o r x false cs hρ hhb hv
  have hHf := H.fit
  have henv := setCells_env B vs (o + off) w
  constructor
  · have := run_storeCells_cells (P := P) B (o + off) vs 0 w
      (fun j hj => by rw [show o + off + 0 + j = o + (off + j) by omega]; exact H.there _ (by omega))
      (fun j hj => by rw [show o + off + 0 + j = o + (off + j) by omega]; exact H.free rfl (by have := H.fit; omega) _)
      hone
    simpa using this
  · have hp := post1 (st' := st.set b x') (w' := w.setCells B (o + off) vs) (n := b) (B0 := B) (o0 := o) (r0 := r) (x0 := x') hr ha (fun id h1 h2 => by rw [List.length_set] at h2; omega) (.inr hρ) (by simpa using hbl) (by rw [List.getElem?_set_self hbl]) (by simp)
      (fun i hi hib => .inl (by rw [List.getElem?_set_ne (fun e => hib e.symm)]))
      (fun ro cs' e => by rw [hx'] at e; cases e; rw [Rho.put_self hρ]; exact H.written hfit hlen hrel)
      (fun h0 i o' r' y v hi h1 h2 h3 h4 => by
        have hy : h i = some y := by
          unfold upd at h3
          rw [List.length_set] at h3
          split at h3
          · rename_i hlt
            rw [List.getElem?_set_ne (fun e => hi e.symm)] at h3
            rw [ha i hlt]; exact h3
          · exact h3
        exact (hr.alone hρ hhb hv h0).1 i o' r' y v hi h1 h2 hy h4)
      (fun h0 => (hr.alone hρ hhb hv h0).2.1)
      (fun B' hB hne => by
        rcases hne with hne | h0
        · exact setCells_heap_other _ _ _ _ _ hne
        · have : vs = [] := by apply List.eq_nil_of_length_eq_zero; omega
          subst this; rfl)
      (by rw [setCells_size]; exact Nat.le_refl _) henv.1 henv.2.1 henv.2.2
      (fun h0 B' hB hF => (hr.alone hρ hhb hv h0).2.2 B' hF)
    rw [Rho.put_self hρ] at hp
    exact hp

/-- A new block. -/
theorem new_post (hr : HR ρ h w) (ha : Agree st h) {x : Ent} {cs : List AV} {vs rest : List Value} {ty : TypeId} (hf : Fresh ρ st (st ++ [x])) (hx : x.view = some (false, cs)) (hrel : Rels ρ cs vs) :
    Post ρ h w st (ρ.put st.length (w.heap.size, 0, vs.length + rest.length)) (upd (st ++ [x]) h) (w.alloc (.cells (vs ++ rest).toArray ty)) (st ++ [x]) := by
  have hρn : ρ st.length = none := hf _ (Nat.le_refl _) (by simp)
  have hle : ρ.le (ρ.put st.length (w.heap.size, 0, vs.length + rest.length)) := Rho.put_le (.inl hρn)
  have hcell : ∀ o, w.cell? ⟨w.heap.size, o, none⟩ = none := fun o => by
    cases e : w.cell? ⟨w.heap.size, o, none⟩ with
    | none => rfl
    | some v => have := cell_lt e; omega
  refine post1 (x0 := x) hr ha hf (.inl ⟨hρn, Nat.le_refl _⟩) (by simp) (by simp) (by simp) (fun i hi hne => .inl (by rw [List.getElem?_append_left hi]))
    (fun ro cs' e => by rw [hx] at e; cases e; exact Holds.fresh (Rels.mono hle _ _ hrel))
    (fun h0 i o r y v hi h1 h2 h3 h4 => ?_) (fun _ o => ?_) (fun B hB _ => heap_alloc_old w _ _ hB) (by simp) rfl rfl rfl (fun _ B hB _ => by omega)
  · have hy : h i = some y := by
      unfold upd at h3
      split at h3
      · rename_i hlt
        simp only [List.length_append, List.length_cons, List.length_nil] at hlt
        have hil : i < st.length := by omega
        rw [List.getElem?_append_left hil] at h3
        rw [ha i hil]; exact h3
      · exact h3
    obtain ⟨ro, cs'⟩ := v
    have := (hr.cell i _ o r y ro cs' h1 hy h4).lt h2
    omega
  · cases e : ρ.fz w.heap.size o with
    | none => rfl
    | some v => have := hr.fzh _ _ _ e; rw [hcell] at this; cases this

/- ### reads -/
theorem made_bytes : ∀ (l : List AV) (acc : List UInt8) (v : AV), madeB l acc = some v → ∃ ns : List Int, l = ns.map (AV.int .u8) ∧ v = .str (acc.reverse ++ ns.map fun n => UInt8.ofNat n.toNat)
  | [], acc, v, e => by simp only [madeB] at e; cases e; exact ⟨[], rfl, by simp⟩
  | x :: r, acc, v, e => by
    cases x with
    | int k n =>
      cases k <;> simp only [madeB] at e <;> first | cases e | skip
      obtain ⟨ns, h1, h2⟩ := made_bytes r _ v e
      exact ⟨n :: ns, by simp [h1], by simp [h2]⟩
    | _ => simp only [madeB] at e; cases e
theorem rels_ints {ns : List Int} {vs : List Value} (h : Rels ρ (ns.map (AV.int .u8)) vs) : vs = ns.map (Value.int .u8) := by
  induction ns generalizing vs with
  | nil => simpa [Rels] using h
  | cons n ns ih =>
    simp only [List.map_cons, Rels, Rel] at h
    obtain ⟨v, vs', rfl, rfl, h2⟩ := h
    rw [ih h2]; rfl
theorem foldl_push (ns : List Int) : ∀ (b : ByteArray), ns.foldl (fun r n => r.push (UInt8.ofNat n.toNat)) b = ⟨(b.data.toList ++ ns.map fun n => UInt8.ofNat n.toNat).toArray⟩ := by
  induction ns with
  | nil => intro b; simp
  | cons n ns ih =>
    intro b
    rw [List.foldl_cons, ih]
    simp [ByteArray.push]
theorem flat_bytes : ∀ (l : List D), flat (.int .u8) l = (l.map D.asInt).map (AV.int .u8)
  | [] => rfl
  | d :: l => by simp only [flat, expand, flat_bytes l, List.map_cons, List.singleton_append]
theorem bytesD_eq (l : List D) : bytesD l = (l.map D.asInt).map fun n => UInt8.ofNat n.toNat := by simp [bytesD]

/-- A run of bytes as a text. -/
theorem run_conv_bytes {o : Oper} {src dst : TypeId} {x : Operand} {a : Act} {e0 : TypeId} (ho : o.op = .convert src dst x) (hs : P.underlying src = some (.slice e0)) (hd : P.underlying dst = some .string) (he : P.underlying e0 = some (.int .u8))
    {bs : Option Addr} {n c : Nat} {ns : List Int} (hx : a.eval x = .slice bs n c) (hl : match bs with | some p => (loadCells p n).run P w = .ok (ns.map (Value.int .u8)).toArray w | none => n = 0 ∧ ns = []) :
    (execOp a.eval o).run P w = .ok (.value (.string ⟨(ns.map fun n => UInt8.ofNat n.toNat).toArray⟩)) w := by
  obtain ⟨ds, op, type, pos, after, guard⟩ := o
  simp only at ho
  subst ho
  have hrun : (Conv.bytesToString (.slice bs n c)).run P w = .ok (.string ⟨(ns.map fun n => UInt8.ofNat n.toNat).toArray⟩) w := by
    cases bs with
    | none =>
      obtain ⟨rfl, rfl⟩ := hl
      rfl
    | some p =>
      rw [run_bytesToString w _ _ _ ns hl, foldl_push]
      simp
  simp only [execOp, Sem.run_bind, hx, run_convert_bytes_string w src dst e0 bs n c hs he hd, hrun, Result.andThen_ok, Sem.run_pure]
end
end Go.Sy
