/- New blocks; append, copy, clear. -/
import Derived.Test.YtekedhfmdpbplaaDenG
import Derived.IntWalk
set_option linter.unusedSimpArgs false
set_option linter.unusedVariables false
namespace Go.Den
open Go

/- ### so many times some cells -/
def timesV : Nat → List Value → List Value
  | 0, _ => []
  | n + 1, z => z ++ timesV n z
theorem Rels.times {ρ : Rho} {z : List AV} {zv : List Value} (h : Rels ρ z zv) : ∀ n, Rels ρ (timesL n z) (timesV n zv)
  | 0 => Rels.nil
  | n + 1 => h.append (Rels.times h n)
theorem timesV_length (z : List Value) : ∀ n, (timesV n z).length = n * z.length
  | 0 => by simp [timesV]
  | n + 1 => by simp [timesV, timesV_length z n, Nat.add_mul]; omega
theorem timesV_get (z : List Value) (hz : 0 < z.length) : ∀ (n i : Nat), i < n * z.length → (timesV n z)[i]? = z[i % z.length]?
  | 0, i, h => by omega
  | n + 1, i, h => by
    simp only [timesV]
    by_cases hi : i < z.length
    · rw [List.getElem?_append_left hi, Nat.mod_eq_of_lt hi]
    · rw [List.getElem?_append_right (by omega), timesV_get z hz n (i - z.length) (by rw [Nat.add_mul] at h; omega)]
      congr 1
      exact (Nat.mod_eq_sub_mod (by omega)).symm
theorem range_times (z : Array Value) (n : Nat) (hz : 0 < z.size ∨ n = 0) : ((Array.range (n * z.size)).map (fun i => z[i % z.size]!)) = (timesV n z.toList).toArray := by
  apply Array.ext'
  apply List.ext_getElem?
  intro i
  by_cases hi : i < n * z.size
  · have hz' : 0 < z.size := by
      rcases hz with h | h
      · exact h
      · subst h; simp at hi
    rw [timesV_get _ (by simpa using hz') n i (by simpa using hi)]
    have hm : i % z.size < z.size := Nat.mod_lt _ hz'
    simp [hi, getElem!_pos z (i % z.size) hm, Array.getElem?_eq_getElem hm]
  · rw [List.getElem?_eq_none (by simp; omega), List.getElem?_eq_none (by rw [timesV_length]; simp; omega)]
theorem zeroCells_times (z : Array Value) (n : Nat) (hz : 0 < z.size ∨ n = 0) : Builtin.zeroCells z n = (timesV n z.toList).toArray := range_times z n hz

section
variable {P : Program} {ρ : Rho} {h : Hp} (w : World) {tmps : List AV} {a : Act}

theorem sizeA_cells {t : TypeId} {n : Nat} (hn : sizeA P t = some n) : ∃ i, P.info? t = some i ∧ i.size = n := by
  unfold sizeA at hn
  split at hn
  · rename_i i hi; cases hn; exact ⟨i, hi, rfl⟩
  · cases hn

/-- The cells of a literal, or of make, ahead of the parts. -/
theorem zeros_sound {e : TypeId} {len sz : Nat} {z : List AV}
    (hz : (match Nat.beq (len * sz) 0 with | true => some [] | false => match zeroA P e with | some z => (match Nat.beq z.cells.length sz with | true => some (timesL len z.cells) | false => none) | none => none : Option (List AV)) = some z) (ρ : Rho) :
    ∃ zs : List Value, Rels ρ z zs ∧ zs.length = len * sz ∧ ((len * sz = 0 ∧ zs = []) ∨
      (¬ len * sz = 0 ∧ ∃ zv : Value, (∀ w, (zeroValue e).run P w = .ok zv w) ∧ (Array.range (len * sz)).map (zv.cells[· % zv.cells.size]!) = zs.toArray)) := by
  split at hz
  · rename_i h0
    have h0' := beq_true_eq h0
    cases hz
    exact ⟨[], Rels.nil, by simp [h0'], .inl ⟨h0', rfl⟩⟩
  · rename_i h0
    have h0' := beq_false_ne h0
    split at hz
    · rename_i z0 hz0
      split at hz
      · rename_i hb
        cases hz
        have hl := beq_true_eq hb
        obtain ⟨zv, hzr, hrel⟩ := run_zeroA hz0 ρ
        have hlen := hrel.cells.length
        simp only [Array.length_toList] at hlen
        have hsz : zv.cells.size = sz := by rw [hlen, hl]
        have hpos : 0 < sz := by
          rcases Nat.eq_zero_or_pos sz with e | e
          · subst e; simp at h0'
          · exact e
        refine ⟨timesV len zv.cells.toList, hrel.cells.times len, by rw [timesV_length]; simp; rw [hlen, hl], .inr ⟨h0', zv, hzr, ?_⟩⟩
        have := range_times zv.cells len (by left; omega)
        rw [hsz] at this
        rw [← this, hsz]
      · cases hz
    · cases hz

/-- An operation that makes a block: on the model's side. -/
theorem alloc_real (htr : TR ρ tmps a.tmps) {o : Oper} {n : Nat} {v : AV} {cs : List AV} (e : allocA P tmps n o.op = some (v, cs)) :
    ∃ u vs ty, (execOp a.eval o).run P w = .ok (.value u) (w.alloc (.cells vs.toArray ty)) ∧ Rels ρ cs vs ∧ ∀ ρ' : Rho, ρ' n = some (w.heap.size, 0, vs.length) → Rel ρ' v u := by
  obtain ⟨dst, op, type, pos, after, guard⟩ := o
  simp only at e
  unfold allocA at e
  split at e
  · rename_i t
    split at e
    · rename_i z hz
      cases e
      obtain ⟨zv, hzr, hrel⟩ := run_zeroA hz ρ
      refine ⟨.pointer (some ⟨w.heap.size, 0, none⟩), zv.cells.toList, t, ?_, hrel.cells, fun ρ' hρ' => by simp only [Rel]; exact ⟨_, _, _, hρ', rfl⟩⟩
      simp [execOp, Instr.alloc, hzr, newVar, newRow]
    · cases e
  · rename_i t x
    split at e
    · rename_i v0 hv
      cases e
      have hrel := ev_sound htr hv
      refine ⟨.pointer (some ⟨w.heap.size, 0, none⟩), (a.eval x).cells.toList, t, ?_, hrel.cells, fun ρ' hρ' => by simp only [Rel]; exact ⟨_, _, _, hρ', rfl⟩⟩
      simp [execOp, Instr.box, newVar, newRow]
    · cases e
  · rename_i t len parts
    split at e
    · rename_i e0 l ht hl
      split at e
      · rename_i sz hs
        split at e
        · cases e
        · rename_i hsm
          have hsm' := Nat.le_of_ble_eq_true hsm
          split at e
          · cases e
          · rename_i z hz
            split at e
            · rename_i cs0 hf
              cases e
              obtain ⟨zs, hzrel, hzl, hcase⟩ := zeros_sound hz ρ
              obtain ⟨r', hr', hrel⟩ := fill_fillA (ρ := ρ) (placeV := fun i => some (i * sz, sz)) (by intro i x hx; exact hx) l _ z zs _ hf (evParts_sound htr hl) hzrel
              refine ⟨.slice (some ⟨w.heap.size, 0, none⟩) len len, r', e0, ?_, hrel, fun ρ' hρ' => by simp only [Rel]; exact ⟨_, _, _, hρ', Nat.le_refl _, rfl⟩⟩
              have hnot : ¬ len * sz > 2 ^ 24 := by omega
              have hq := parts_toArray parts a.eval
              generalize (parts.toList.map fun (i, x) => (i, a.eval x)) = qs at hq hr'
              simp only [execOp]
              rw [hq]
              rcases hcase with ⟨h0, rfl⟩ | ⟨h0, zv, hzr, hmap⟩
              · have hm0 : (Array.range (len * sz)).map (fun i => (#[] : Array Value)[i % (#[] : Array Value).size]!) = (#[] : Array Value) := by apply Array.ext'; simp [h0]
                simp only [Instr.buildSlice, Sem.run_bind, run_underlying ht, run_sizeA hs, Result.andThen_ok, Sem.run_ite, hnot, if_false, if_pos h0, Sem.run_pure, hm0, hr', newRow, run_newObj]
                rfl
              · simp only [Instr.buildSlice, Sem.run_bind, run_underlying ht, run_sizeA hs, Result.andThen_ok, Sem.run_ite, hnot, if_false, if_neg h0, Sem.run_pure, hzr, hmap, hr', newRow, run_newObj]
                rfl
            · cases e
      · cases e
    · cases e
  · rename_i t l c
    split at e
    · rename_i e0 k1 l0 k2 c0 ht hl hc
      split at e
      · rename_i sz by_ hs hby
        split at e
        · cases e
        · rename_i hb
          simp only [Bool.and_eq_true, decide_eq_true_eq] at hb
          obtain ⟨⟨⟨h0, hlc⟩, hmax⟩, hbytes⟩ := hb
          split at e
          · cases e
          · rename_i z hz
            cases e
            obtain ⟨zs, hzrel, hzl, hcase⟩ := zeros_sound hz ρ
            have r1 := ev_sound htr hl
            have r2 := ev_sound htr hc
            simp only [Rel] at r1 r2
            obtain ⟨i, hi, hib⟩ := run_bytesA hby
            refine ⟨.slice (some ⟨w.heap.size, 0, none⟩) l0.toNat c0.toNat, zs, e0, ?_, hzrel, fun ρ' hρ' => by simp only [Rel]; exact ⟨_, _, _, hρ', by omega, rfl⟩⟩
            have hw1 : IntKind.i64.wrap l0 = l0 := IntWalk.i64_in _ (by omega)
            have hw2 : IntKind.i64.wrap c0 = c0 := IntWalk.i64_in _ (by omega)
            have hti : ∀ w, (typeInfo e0).run P w = .ok i w := fun w => by simp [typeInfo, hi]
            have hcond : (((decide (c0 < 0) || decide ((i.bytes : Int) * c0 > 2 ^ 48)) || decide (l0 < 0)) || decide (l0 > c0)) = false := by
              rw [hib]; simp only [Bool.or_eq_false_iff, decide_eq_false_iff_not]; omega
            simp only [execOp]
            rw [r1, r2]
            rcases hcase with ⟨h0, rfl⟩ | ⟨h0, zv, hzr, hmap⟩
            · have hm0 : (Array.range (c0.toNat * sz)).map (fun i => (#[] : Array Value)[i % (#[] : Array Value).size]!) = (#[] : Array Value) := by apply Array.ext'; simp [h0]
              simp only [Instr.makeSlice, Sem.run_bind, run_underlying ht, Result.andThen_ok, asInt, asIntOf, Sem.run_pure, hti, hw1, hw2, hcond, Bool.false_eq_true, if_false, run_askRoom, run_sizeA hs, Sem.run_ite, if_pos h0, hm0, newRow, run_newObj]
              rfl
            · simp only [Instr.makeSlice, Sem.run_bind, run_underlying ht, Result.andThen_ok, asInt, asIntOf, Sem.run_pure, hti, hw1, hw2, hcond, Bool.false_eq_true, if_false, run_askRoom, run_sizeA hs, Sem.run_ite, if_neg h0, hzr, hmap, newRow, run_newObj]
              rfl
      · cases e
    · cases e
  · cases e
end

end Go.Den
