/- New blocks, stores; what append and copy take over. -/
import Derived.Test.YtkfdfenaaidkkaaSyH
import Derived.IntWalk
set_option linter.unusedSimpArgs false
set_option linter.unusedVariables false
namespace Go.Sy
open Go

theorem beq_false_ne {a b : Nat} (h : Nat.beq a b = false) : a ≠ b := fun e => by subst e; simp at h
theorem beq_true_eq {a b : Nat} (h : Nat.beq a b = true) : a = b := Nat.eq_of_beq_eq_true h
section
variable {P : Program} {ρ : Rho} {tmps : List AV} {a : Act} (w : World)
def timesV : Nat → List Value → List Value
  | 0, _ => []
  | n + 1, z => z ++ timesV n z
theorem Rels.times {ρ : Rho} {z : List AV} {zv : List Value} (h : Rels ρ z zv) : ∀ n, Rels ρ (timesL n z) (timesV n zv)
  | 0 => Rels.nil
  | n + 1 => h.append (Rels.times h n)
theorem timesV_length (z : List Value) : ∀ n, (timesV n z).length = n * z.length
  | 0 => by simp [timesV]
  | n + 1 => by simp [timesV, timesV_length z n, Nat.add_mul]; omega
theorem timesV_get (z : List Value) (hz : 0 < z.length) : ∀ (n i : Nat), i < n * z.length → (timesV n z)[i]? = z[i % z.length]?
  | 0, i, h => by omega
  | n + 1, i, h => by
    simp only [timesV]
    by_cases hi : i < z.length
    · rw [List.getElem?_append_left hi, Nat.mod_eq_of_lt hi]
    · rw [List.getElem?_append_right (by omega), timesV_get z hz n (i - z.length) (by rw [Nat.add_mul] at h; omega)]
      congr 1
      exact (Nat.mod_eq_sub_mod (by omega)).symm
theorem range_times (z : Array Value) (n : Nat) (hz : 0 < z.size ∨ n = 0) : ((Array.range (n * z.size)).map (fun i => z[i % z.size]!)) = (timesV n z.toList).toArray := by
  apply Array.ext'
  apply List.ext_getElem?
  intro i
  by_cases hi : i < n * z.size
  · have hz' : 0 < z.size := by
      rcases hz with h | h
      · exact h
      · subst h; simp at hi
    rw [timesV_get _ (by simpa using hz') n i (by simpa using hi)]
    have hm : i % z.size < z.size := Nat.mod_lt _ hz'
    simp [hi, getElem!_pos z (i % z.size) hm, Array.getElem?_eq_getElem hm]
  · rw [List.getElem?_eq_none (by simp; omega), List.getElem?_eq_none (by rw [timesV_length]; simp; omega)]
theorem zeroCells_times (z : Array Value) (n : Nat) (hz : 0 < z.size ∨ n = 0) : Builtin.zeroCells z n = (timesV n z.toList).toArray := range_times z n hz



/-- The cells of a literal, or of make, ahead of the parts. -/
theorem zeros_sound {e : TypeId} {len sz : Nat} {z : List AV}
    (hz : (match Nat.beq (len * sz) 0 with | true => some [] | false => match zeroA P e with | some z => (match Nat.beq z.cells.length sz with | true => some (timesL len z.cells) | false => none) | none => none : Option (List AV)) = some z) (ρ : Rho) :
    ∃ zs : List Value, Rels ρ z zs ∧ zs.length = len * sz ∧ ((len * sz = 0 ∧ zs = []) ∨
      (¬ len * sz = 0 ∧ ∃ zv : Value, (∀ w, (zeroValue e).run P w = .ok zv w) ∧ (Array.range (len * sz)).map (zv.cells[· % zv.cells.size]!) = zs.toArray)) := by
  split at hz
  · rename_i h0
    have h0' := beq_true_eq h0
    cases hz
    exact ⟨[], Rels.nil, by simp [h0'], .inl ⟨h0', rfl⟩⟩
  · rename_i h0
    have h0' := beq_false_ne h0
    split at hz
    · rename_i z0 hz0
      split at hz
      · rename_i hb
        cases hz
        have hl := beq_true_eq hb
        obtain ⟨zv, hzr, hrel⟩ := run_zeroA hz0 ρ
        have hlen := hrel.cells.length
        simp only [Array.length_toList] at hlen
        have hsz : zv.cells.size = sz := by rw [hlen, hl]
        have hpos : 0 < sz := by
          rcases Nat.eq_zero_or_pos sz with e | e
          · subst e; simp at h0'
          · exact e
        refine ⟨timesV len zv.cells.toList, hrel.cells.times len, by rw [timesV_length]; simp; rw [hlen, hl], .inr ⟨h0', zv, hzr, ?_⟩⟩
        have := range_times zv.cells len (by left; omega)
        rw [hsz] at this
        rw [← this, hsz]
      · cases hz
    · cases hz


/- ### nought of a shape -/
mutual
theorem zeroSh_sound : ∀ (sh : Sh) (cells : List AV) (vs : List Value) (rest : List AV), zeroSh sh cells = some rest → Rels ρ cells vs → RelSh ρ.fz sh .nul (vs.take sh.size) ∧ Rels ρ rest (vs.drop sh.size)
  | .bool, cells, vs, rest, e, hr => by
    cases cells with
    | nil => simp [zeroSh] at e
    | cons x cells =>
      cases x <;> simp only [zeroSh, reduceCtorEq] at e
      split at e
      · cases e
        simp only [Rels, Rel] at hr
        obtain ⟨v, us, rfl, rfl, hr⟩ := hr
        exact ⟨by simp [RelSh, Sh.size, D.asBool], by simpa [Sh.size] using hr⟩
      · cases e
  | .int k, cells, vs, rest, e, hr => by
    cases cells with
    | nil => simp [zeroSh] at e
    | cons x cells =>
      cases x <;> simp only [zeroSh, reduceCtorEq] at e
      split at e
      · rename_i hk
        simp only [Bool.and_eq_true, decide_eq_true_eq] at hk
        cases e
        simp only [Rels, Rel] at hr
        obtain ⟨v, us, rfl, rfl, hr⟩ := hr
        exact ⟨by simp [RelSh, Sh.size, D.asInt, hk.1, hk.2], by simpa [Sh.size] using hr⟩
      · cases e
  | .str, cells, vs, rest, e, hr => by
    cases cells with
    | nil => simp [zeroSh] at e
    | cons x cells =>
      cases x <;> simp only [zeroSh, reduceCtorEq] at e
      split at e
      · cases e
        simp only [Rels, Rel] at hr
        obtain ⟨v, us, rfl, rfl, hr⟩ := hr
        exact ⟨by simp [RelSh, Sh.size, D.asStr], by simpa [Sh.size] using hr⟩
      · cases e
  | .slice sh, cells, vs, rest, e, hr => by
    cases cells with
    | nil => simp [zeroSh] at e
    | cons x cells =>
      cases x <;> simp only [zeroSh, reduceCtorEq] at e
      cases e
      simp only [Rels, Rel] at hr
      obtain ⟨v, us, rfl, rfl, hr⟩ := hr
      exact ⟨by simp [RelSh, Sh.size, D.els, FzR], by simpa [Sh.size] using hr⟩
  | .struct fs, cells, vs, rest, e, hr => by
    simp only [zeroSh] at e
    simp only [RelSh, Sh.size]
    exact zeroShs_sound fs cells vs rest 0 e hr
theorem zeroShs_sound : ∀ (fs : List Sh) (cells : List AV) (vs : List Value) (rest : List AV) (i : Nat), zeroShs fs cells = some rest → Rels ρ cells vs → RelShs ρ.fz fs .nul i (vs.take (Sh.sizes fs)) ∧ Rels ρ rest (vs.drop (Sh.sizes fs))
  | [], cells, vs, rest, i, e, hr => by
    simp only [zeroShs] at e; cases e
    exact ⟨by simp [RelShs, Sh.sizes], by simpa [Sh.sizes] using hr⟩
  | f :: fs, cells, vs, rest, i, e, hr => by
    simp only [zeroShs] at e
    split at e
    · rename_i r h1
      obtain ⟨k1, k2⟩ := zeroSh_sound f cells vs r h1 hr
      obtain ⟨m1, m2⟩ := zeroShs_sound fs r _ rest (i + 1) e k2
      refine ⟨?_, ?_⟩
      · simp only [RelShs, Sh.sizes]
        exact ⟨vs.take f.size, (vs.drop f.size).take (Sh.sizes fs), by rw [List.take_add], by simpa [D.fld] using k1, m1⟩
      · simp only [Sh.sizes]
        rwa [List.drop_drop] at m2
    · cases e
end
theorem shT_some {t : TypeId} {sh : Sh} (h : shT P t = some sh) : sizeA P t = some sh.size ∧ ∃ z, zeroA P t = some z ∧ z.cells.length = sh.size ∧ ∀ (ρ : Rho) vs, Rels ρ z.cells vs → Rels ρ (expand sh .nul) vs := by
  unfold shT at h
  split at h
  · rename_i s n z h1 h2 h3
    split at h
    · rename_i hb hz
      cases h
      have hn := Nat.eq_of_beq_eq_true hb
      have key : ∀ (ρ : Rho) vs, Rels ρ z.cells vs → RelSh ρ.fz sh .nul vs ∧ vs.length = sh.size := fun ρ vs hr => by
        obtain ⟨k1, k2⟩ := zeroSh_sound sh _ _ _ hz hr
        have hl := k1.length
        have hnil := k2.length
        have : vs.take sh.size = vs := by
          apply List.take_of_length_le
          simp only [List.length_drop, List.length_nil] at hnil
          omega
        rw [this] at k1 hl
        exact ⟨k1, hl⟩
      refine ⟨by rw [hn]; exact h2, z, h3, ?_, fun ρ vs hr => (rels_expand _ _ _).1 (key ρ vs hr).1⟩
      obtain ⟨v, _, hrel⟩ := run_zeroA h3 ⟨fun _ => none, fun _ _ => none⟩
      have := (key _ _ hrel.cells).2
      rw [hrel.cells.length] at this
      exact this
    · cases h
  · cases h
theorem flat_replicate (e : Sh) (d : D) : ∀ n, flat e (List.replicate n d) = timesL n (expand e d)
  | 0 => rfl
  | n + 1 => by simp only [List.replicate_succ, flat, timesL, flat_replicate e d n]

/-- An operation that makes a block: on the model's side. -/
theorem alloc_real (htr : TR ρ tmps a.tmps) {o : Oper} {n : Nat} {v : AV} {x : Ent} (e : allocA P tmps n o.op = some (true, v, x)) :
    ∃ u vs ty cs, (execOp a.eval o).run P w = .ok (.value u) (w.alloc (.cells vs.toArray ty)) ∧ x.view = some (false, cs) ∧ Rels ρ cs vs ∧ ∀ ρ' : Rho, ρ' n = some (w.heap.size, 0, vs.length) → Rel ρ' v u := by
  obtain ⟨dst, op, type, pos, after, guard⟩ := o
  simp only at e
  unfold allocA at e
  split at e
  · rename_i t
    split at e
    · rename_i z hz
      cases e
      obtain ⟨zv, hzr, hrel⟩ := run_zeroA hz ρ
      refine ⟨.pointer (some ⟨w.heap.size, 0, none⟩), zv.cells.toList, t, _, ?_, rfl, hrel.cells, fun ρ' hρ' => by simp only [Rel]; exact ⟨_, _, _, hρ', rfl⟩⟩
      simp [execOp, Instr.alloc, hzr, newVar, newRow]
    · cases e
  · rename_i t x
    split at e
    · rename_i v0 hv
      cases e
      have hrel := ev_sound htr hv
      refine ⟨.pointer (some ⟨w.heap.size, 0, none⟩), (a.eval x).cells.toList, t, _, ?_, rfl, hrel.cells, fun ρ' hρ' => by simp only [Rel]; exact ⟨_, _, _, hρ', rfl⟩⟩
      simp [execOp, Instr.box, newVar, newRow]
    · cases e
  · rename_i t len parts
    split at e
    · rename_i e0 l ht hl
      split at e
      · rename_i sz hs
        split at e
        · cases e
        · rename_i hsm
          have hsm' := Nat.le_of_ble_eq_true hsm
          split at e
          · cases e
          · rename_i z hz
            split at e
            · rename_i cs0 hf
              cases e
              obtain ⟨zs, hzrel, hzl, hcase⟩ := zeros_sound hz ρ
              obtain ⟨r', hr', hrel⟩ := fill_fillA (ρ := ρ) (placeV := fun i => some (i * sz, sz)) (by intro i x hx; exact hx) l _ z zs _ hf (evParts_sound htr hl) hzrel
              refine ⟨.slice (some ⟨w.heap.size, 0, none⟩) len len, r', e0, _, ?_, rfl, hrel, fun ρ' hρ' => by simp only [Rel]; exact ⟨_, _, _, hρ', Nat.le_refl _, rfl⟩⟩
              have hnot : ¬ len * sz > 2 ^ 24 := by omega
              have hq := parts_toArray parts a.eval
              generalize (parts.toList.map fun (i, x) => (i, a.eval x)) = qs at hq hr'
              simp only [execOp]
              rw [hq]
              rcases hcase with ⟨h0, rfl⟩ | ⟨h0, zv, hzr, hmap⟩
              · have hm0 : (Array.range (len * sz)).map (fun i => (#[] : Array Value)[i % (#[] : Array Value).size]!) = (#[] : Array Value) := by apply Array.ext'; simp [h0]
                simp only [Instr.buildSlice, Sem.run_bind, run_underlying ht, run_sizeA hs, Result.andThen_ok, Sem.run_ite, hnot, if_false, if_pos h0, Sem.run_pure, hm0, hr', newRow, run_newObj]
                rfl
              · simp only [Instr.buildSlice, Sem.run_bind, run_underlying ht, run_sizeA hs, Result.andThen_ok, Sem.run_ite, hnot, if_false, if_neg h0, Sem.run_pure, hzr, hmap, hr', newRow, run_newObj]
                rfl
            · cases e
      · cases e
    · cases e
  · rename_i t l c
    split at e
    · rename_i e0 k1 l0 k2 c0 ht hl hc
      split at e
      · rename_i sh by_ hsh hby
        simp only [Option.some.injEq, Prod.mk.injEq, Bool.and_eq_true, decide_eq_true_eq] at e
        obtain ⟨⟨⟨⟨h0, hlc⟩, hmax⟩, hbytes⟩, rfl, rfl⟩ := e
        obtain ⟨hs, z, hz, hzl, hznul⟩ := shT_some hsh
        obtain ⟨zv, hzr, hrel⟩ := run_zeroA hz ρ
        have hlen := hrel.cells.length
        simp only [Array.length_toList] at hlen
        have hzs : zv.cells.size = sh.size := by rw [hlen, hzl]
        have r1 := ev_sound htr hl
        have r2 := ev_sound htr hc
        simp only [Rel] at r1 r2
        obtain ⟨i, hi, hib⟩ := run_bytesA hby
        have hflat : Rels ρ (flat sh (List.replicate c0.toNat .nul)) (timesV c0.toNat zv.cells.toList) := by
          rw [flat_replicate]
          exact Rels.times (hznul ρ _ hrel.cells) _
        have hvl := hflat.length
        refine ⟨.slice (some ⟨w.heap.size, 0, none⟩) l0.toNat c0.toNat, timesV c0.toNat zv.cells.toList, e0, _, ?_, rfl, hflat, fun ρ' hρ' => ?_⟩
        · have hw1 : IntKind.i64.wrap l0 = l0 := IntWalk.i64_in _ (by omega)
          have hw2 : IntKind.i64.wrap c0 = c0 := IntWalk.i64_in _ (by omega)
          have hti : ∀ w, (typeInfo e0).run P w = .ok i w := fun w => by simp [typeInfo, hi]
          have hcond : (((decide (c0 < 0) || decide ((i.bytes : Int) * c0 > 2 ^ 48)) || decide (l0 < 0)) || decide (l0 > c0)) = false := by
            rw [hib]; simp only [Bool.or_eq_false_iff, decide_eq_false_iff_not]; omega
          simp only [execOp]
          rw [r1, r2]
          by_cases hz0 : c0.toNat * sh.size = 0
          · have hm0 : (Array.range (c0.toNat * sh.size)).map (fun i => (#[] : Array Value)[i % (#[] : Array Value).size]!) = (timesV c0.toNat zv.cells.toList).toArray := by
              apply Array.ext'
              have : timesV c0.toNat zv.cells.toList = [] := by
                apply List.eq_nil_of_length_eq_zero
                rw [timesV_length, Array.length_toList, hzs]; exact hz0
              rw [this]
              simp [hz0]
            simp only [Instr.makeSlice, Sem.run_bind, run_underlying ht, Result.andThen_ok, asInt, asIntOf, Sem.run_pure, hti, hw1, hw2, hcond, Bool.false_eq_true, if_false, run_askRoom, run_sizeA hs, Sem.run_ite, if_pos hz0, hm0, newRow, run_newObj]
            rfl
          · have hpos : 0 < sh.size := by
              rcases Nat.eq_zero_or_pos sh.size with e | e
              · rw [e] at hz0; simp at hz0
              · exact e
            have hmap : (Array.range (c0.toNat * sh.size)).map (zv.cells[· % zv.cells.size]!) = (timesV c0.toNat zv.cells.toList).toArray := by
              have := range_times zv.cells c0.toNat (by left; omega)
              rw [hzs] at this
              rw [← this, hzs]
            simp only [Instr.makeSlice, Sem.run_bind, run_underlying ht, Result.andThen_ok, asInt, asIntOf, Sem.run_pure, hti, hw1, hw2, hcond, Bool.false_eq_true, if_false, run_askRoom, run_sizeA hs, Sem.run_ite, if_neg hz0, hzr, hmap, newRow, run_newObj]
            rfl
        · simp only [Rel]
          refine ⟨_, _, _, hρ', .inr ⟨c0.toNat, by simp only [Cap.top]; omega, by simp [Cap.top], rfl, ?_, .inl (by simp)⟩⟩
          rw [hvl, flat_length]
          simp
      · cases e
    · cases e
  · cases e

/- ### what is taken over -/
variable {h : Hp} {s : St}
theorem lenOf_slice {u : Value} {p : Option Addr} {n c : Nat} (hu : u = .slice p n c) : ∀ w, (Builtin.lenOf u).run P w = .ok n w := fun w => by subst hu; rfl
theorem readL_flat {e : Sh} {l : List D} {off len : Nat} (hle : off + len ≤ l.length) : readL (flat e l) (off * e.size) (len * e.size) = some (flat e ((l.drop off).take len)) := by
  unfold readL
  have : off * e.size + len * e.size ≤ (flat e l).length := by rw [flat_length, ← Nat.add_mul]; exact Nat.mul_le_mul_right _ hle
  rw [Nat.ble_eq_true_of_le this, flat_take, flat_drop]
theorem flat_of_els {sh : Sh} : ∀ (ds : List D) (vs : List Value), vs.length = ds.length * sh.size → (∀ (i : Nat) (d : D), ds[i]? = some d → RelSh ρ.fz sh d ((vs.drop (i * sh.size)).take sh.size)) → Rels ρ (flat sh ds) vs
  | [], vs, hl, hr => by
    have : vs = [] := by apply List.eq_nil_of_length_eq_zero; simpa using hl
    subst this; exact Rels.nil
  | d :: ds, vs, hl, hr => by
    simp only [List.length_cons, Nat.add_mul, Nat.one_mul] at hl
    have h0 := hr 0 d rfl
    simp only [Nat.zero_mul, List.drop_zero] at h0
    rw [show vs = vs.take sh.size ++ vs.drop sh.size from (List.take_append_drop _ _).symm]
    refine Rels.append ((rels_expand _ _ _).1 h0) (flat_of_els ds _ (by simp; omega) (fun i d' hd => ?_))
    have := hr (i + 1) d' (by simpa using hd)
    rw [List.drop_drop]
    rwa [show (i + 1) * sh.size = sh.size + i * sh.size by rw [Nat.add_mul]; omega] at this
/-- The cells of a slice of memory that nobody writes. -/
theorem fz_cells {sh : Sh} {B : Nat} : ∀ (l : List D) (o : Nat), (∀ (i : Nat) (d : D), l[i]? = some d → ∃ vs, RelSh ρ.fz sh d vs ∧ ∀ (j : Nat) (u : Value), vs[j]? = some u → ρ.fz B (o + i * sh.size + j) = some u) →
    ∃ vs, Rels ρ (flat sh l) vs ∧ vs.length = l.length * sh.size ∧ ∀ (j : Nat) (u : Value), vs[j]? = some u → ρ.fz B (o + j) = some u
  | [], o, hx => ⟨[], Rels.nil, by simp, fun j u hu => by simp at hu⟩
  | d :: l, o, hx => by
    obtain ⟨vs0, h1, h2⟩ := hx 0 d rfl
    obtain ⟨vs, k1, k2, k3⟩ := fz_cells l (o + sh.size) (fun i d' hd => by
      obtain ⟨vs', m1, m2⟩ := hx (i + 1) d' (by simpa using hd)
      refine ⟨vs', m1, fun j u hu => ?_⟩
      have := m2 j u hu
      rwa [show o + (i + 1) * sh.size + j = o + sh.size + i * sh.size + j by rw [Nat.add_mul]; omega] at this)
    have hl := h1.length
    refine ⟨vs0 ++ vs, Rels.append ((rels_expand _ _ _).1 h1) k1, by simp only [List.length_append, List.length_cons, Nat.add_mul, Nat.one_mul]; omega, fun j u hu => ?_⟩
    by_cases hj : j < vs0.length
    · rw [List.getElem?_append_left hj] at hu
      have := h2 j u hu
      rwa [show o + 0 * sh.size + j = o + j by omega] at this
    · rw [List.getElem?_append_right (by omega)] at hu
      have := k3 _ u hu
      rwa [show o + sh.size + (j - vs0.length) = o + j by omega] at this

/-- What append and copy take over, in the model. -/
structure SrcOk (P : Program) (ρ : Rho) (w : World) (sh : Sh) (u : Value) (new : List D) (vs : List Value) : Prop where
  len : ∀ w, (Builtin.lenOf u).run P w = .ok new.length w
  rel : Rels ρ (flat sh new) vs
  run : ∀ m n, n ≤ new.length → (Builtin.firstCells sh.size n u).run P { w with drawn := m } = .ok (vs.take (n * sh.size)).toArray { w with drawn := m }
theorem src_sound (hr : HR ρ h w) (ha : Agree s h) {sh : Sh} {x : AV} {u : Value} {new : List D} {fr : List Nat} {sure : Bool} (e : srcS s sh x = some (true, new, fr, sure)) (hx : Rel ρ x u) {ρ' : Rho} (hle : ρ.le ρ') (hfzh : ∀ (B o : Nat) (v : Value), ρ'.fz B o = some v → w.cell? ⟨B, o, none⟩ = some v) (hF : FrzAll ρ' s fr) :
    (∃ vs, SrcOk P ρ' w sh u new vs) ∧ (sure = true → 0 < new.length) := by
  have readV : ∀ (m B o : Nat) (vs : List Value) (n : Nat), (∀ (j : Nat) (v : Value), vs[j]? = some v → w.cell? ⟨B, o + j, none⟩ = some v) → n ≤ vs.length → (loadCells ⟨B, o, none⟩ n).run P { w with drawn := m } = .ok (vs.take n).toArray { w with drawn := m } := fun m B o vs n hc hn => by
    have := run_loadCells_list (P := P) { w with drawn := m } ⟨B, o, none⟩ (vs.take n) (fun j v hj => by
      rw [Addr.add_lit]
      show w.cell? _ = _
      apply hc
      rw [List.getElem?_take] at hj
      split at hj
      · exact hj
      · cases hj)
    rwa [show (vs.take n).length = n by simp; omega] at this
  unfold srcS at e
  split at e
  · cases e
    simp only [Rel] at hx
    subst hx
    exact ⟨⟨[], fun w => rfl, Rels.nil, fun m n hn => by simp at hn; subst hn; simp [Builtin.firstCells]⟩, fun e => by cases e⟩
  · rename_i nn e' l
    split at e
    · rename_i hb
      have := Sh.beq_eq _ _ hb
      subst this
      cases e
      have hx' := Rel.mono hle _ _ hx
      simp only [Rel] at hx'
      refine ⟨?_, fun e => by cases e⟩
      rcases hx' with ⟨_, rfl, rfl⟩ | ⟨B, o, cap, rfl, hc, hel⟩
      · exact ⟨[], fun w => rfl, Rels.nil, fun m n hn => by simp at hn; subst hn; simp [Builtin.firstCells]⟩
      · obtain ⟨vs, h1, h2, h3⟩ := fz_cells new o hel
        refine ⟨vs, fun w => rfl, h1, fun m n hn => ?_⟩
        simp only [Builtin.firstCells]
        exact readV m B o vs _ (fun j v hj => hfzh _ _ _ (h3 j v hj)) (by rw [h2]; exact Nat.mul_le_mul_right _ hn)
    · cases e
  · rename_i nn e' b off len cap
    split at e
    · rename_i ro e'' l hb
      split at e
      · rename_i hbe
        simp only [Bool.and_eq_true] at hbe
        have e1 := Sh.beq_eq _ _ hbe.1
        have e2 := Sh.beq_eq _ _ hbe.2
        subst e1; subst e2
        simp only [Option.some.injEq, Prod.mk.injEq] at e
        obtain ⟨hle', rfl, rfl, rfl⟩ := e
        have hle' := Nat.le_of_ble_eq_true hle'
        have hll : ((l.drop off).take len).length = len := by simp; omega
        refine ⟨?_, fun e => by cases e⟩
        have hbl : b < s.length := (List.getElem?_eq_some_iff.1 hb).1
        simp only [Rel] at hx
        obtain ⟨B, o, r, hρ, hx⟩ := hx
        have H := hr.cell b B o r _ ro _ hρ (by rw [ha b hbl]; exact hb) rfl
        rcases hx with ⟨_, rfl, _, _, rfl⟩ | ⟨c, _, _, _, _, rfl | ⟨rfl, y, rfl⟩⟩
        · refine ⟨[], fun w => by simp [Builtin.lenOf], by simp [flat, Rels], fun m n hn => ?_⟩
          rw [hll] at hn
          obtain rfl : n = 0 := by omega
          simp [Builtin.firstCells]
        · obtain ⟨us, u1, u2, _⟩ := H.vals
          have hul := u1.length
          rw [flat_length] at hul
          refine ⟨(us.drop (off * sh.size)).take (len * sh.size), fun w => by rw [hll]; rfl, ?_, fun m n hn => ?_⟩
          · rw [flat_take, flat_drop]
            exact Rels.mono hle _ _ ((u1.drop _).take _)
          · rw [hll] at hn
            simp only [Builtin.firstCells]
            refine readV m B (o + off * sh.size) _ _ (fun j v hj => ?_) ?_
            · rw [List.getElem?_take] at hj
              split at hj
              · rw [List.getElem?_drop] at hj
                rw [Nat.add_assoc]
                exact u2 _ v hj
              · cases hj
            · have h1 : n * sh.size ≤ len * sh.size := Nat.mul_le_mul_right _ hn
              have h2 : (off + len) * sh.size ≤ l.length * sh.size := Nat.mul_le_mul_right _ hle'
              rw [Nat.add_mul] at h2
              simp
              omega
        · have hlen0 : len = 0 := by simp only [Cap.top] at *; omega
          subst hlen0
          refine ⟨[], fun w => by simp [Builtin.lenOf], by simp [flat, Rels], fun m n hn => ?_⟩
          rw [hll] at hn
          obtain rfl : n = 0 := by omega
          simp [Builtin.firstCells, loadCells, loadCellsFrom]
      · cases e
    · cases e
  · rename_i b off len cap
    split at e
    · rename_i cs hb
      split at e
      · rename_i l0 hl
        split at e
        · rename_i g ds fr1 hc
          simp only [Option.some.injEq, Prod.mk.injEq] at e
          obtain ⟨rfl, rfl, rfl, rfl⟩ := e
          have hbl : b < s.length := (List.getElem?_eq_some_iff.1 hb).1
          simp only [Rel] at hx
          obtain ⟨B, o, r, hρ, hlc, rfl⟩ := hx
          have H := hr.cell b B o r _ false _ hρ (by rw [ha b hbl]; exact hb) rfl
          obtain ⟨us, u1, u2, _⟩ := H.vals
          have hul := u1.length
          obtain ⟨hle0, rfl⟩ := readL_some hl
          obtain ⟨k1, k2, k3⟩ := els_sound (ρ := ρ') (s := s) (R := fun d vs => RelSh ρ'.fz sh d vs) (sz := sh.size) (fun cells vs d rest fr => coll_sound sh cells vs d rest fr) len _ _ _ [] _ hc (Rels.mono hle _ _ ((u1.drop off).take (len * sh.size))) hF
          refine ⟨⟨(us.drop off).take (len * sh.size), fun w => by rw [k1]; rfl, flat_of_els _ _ (by rw [k1]; simp; omega) k2, fun m n hn => ?_⟩, fun e => by rw [k1]; simpa [Nat.blt_eq] using e⟩
          rw [k1] at hn
          have hnl : n * sh.size ≤ len * sh.size := Nat.mul_le_mul_right _ hn
          simp only [Builtin.firstCells]
          refine readV m B (o + off) _ _ (fun j v hj => ?_) (by simp; omega)
          rw [List.getElem?_take] at hj
          split at hj
          · rw [List.getElem?_drop] at hj
            rw [Nat.add_assoc]
            exact u2 _ v hj
          · cases hj
        · cases e
      · cases e
    · cases e
  · rename_i y
    split at e
    · cases e
      have := hx.str_inv
      subst this
      refine ⟨⟨y.map fun b => .int .u8 b.toNat, fun w => by simp [Builtin.lenOf, size_mk], ?_, fun m n hn => ?_⟩, fun e => by cases e⟩
      · clear hx hF
        induction y with
        | nil => exact Rels.nil
        | cons c y ih => simp only [List.map_cons, flat, expand, List.singleton_append]; exact Rels.cons (by simp [Rel, D.asInt]) ih
      · simp only [Builtin.firstCells, Sem.run_pure, Sh.size, Nat.mul_one]
        congr 1
        apply Array.ext'
        simp [ByteArray.data_extract, List.map_take]
    · cases e
  · cases e
theorem src_ids (hC : ∀ b cs, s[b]? = some (.cells cs) → ρ b ≠ none → ∃ vs, Rels ρ cs vs) {sh : Sh} {x : AV} {u : Value} {g : Bool} {new : List D} {fr : List Nat} {sure : Bool} (e : srcS s sh x = some (g, new, fr, sure)) (hx : Rel ρ x u) : ∀ b ∈ fr, ρ b ≠ none := by
  unfold srcS at e
  split at e
  · cases e; exact fun b hb => by simp at hb
  · split at e
    · cases e; exact fun b hb => by simp at hb
    · cases e
  · split at e
    · split at e
      · cases e; exact fun b hb => by simp at hb
      · cases e
    · cases e
  · split at e
    · rename_i cs hb
      split at e
      · rename_i l0 hl
        split at e
        · rename_i g ds fr1 hc
          cases e
          simp only [Rel] at hx
          obtain ⟨B, o, r, hρ, hlc, rfl⟩ := hx
          obtain ⟨vs0, h1⟩ := hC _ cs hb (by rw [hρ]; simp)
          obtain ⟨hle, rfl⟩ := readL_some hl
          exact (els_ids (fun cells vs g d rest fr => coll_ids hC sh cells vs g d rest fr) _ _ _ _ _ [] fr hc ((h1.drop _).take _)).1
        · cases e
      · cases e
    · cases e
  · split at e
    · cases e; exact fun b hb => by simp at hb
    · cases e
  · cases e
end
end Go.Sy
