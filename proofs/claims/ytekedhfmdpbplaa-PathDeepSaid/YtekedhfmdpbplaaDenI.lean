/- append, copy, clear; stores. -/
import Derived.Test.YtekedhfmdpbplaaDenH
set_option linter.unusedSimpArgs false
set_option linter.unusedVariables false
namespace Go.Den
open Go

section
variable {P : Program} {ρ : Rho} {h : Hp} {w : World} {st : St}

/-- A new number for a new block with all its cells. -/
theorem new_Post (hr : HR ρ h w) (ha : Agree st h) {cs : List AV} {vs : List Value} {ty : TypeId} (hf : Fresh ρ h st (st.new cs)) (hrel : Rels ρ cs vs) :
    Post ρ h w st (fun i => if i = st.n then some (w.heap.size, 0, vs.length) else ρ i) (upd (st.new cs) h) (w.alloc (.cells vs.toArray ty)) (st.new cs) := by
  have hget : ∀ id, (st.new cs).get id = if st.n = id then some (.cells false none cs) else st.get id := fun id => Tr.get_set _ _ _ _
  have hρn : ρ st.n = none := hf.none st.n (Nat.le_refl _) (by simp [St.new])
  have hg := hr.grow ha hf (by simp [St.new]) (fun id hid => by rw [hget, if_neg (by omega)])
  have hA := alloc_HR hg (id := st.n) (cs := cs) (vs := vs) (rest := []) (e := ty) (fam := none) hρn (by unfold upd; rw [if_pos (by simp [St.new]), hget, if_pos rfl]) hrel (fun _ _ e => by cases e)
  simp only [List.append_nil, List.length_nil, Nat.add_zero] at hA
  refine ⟨fun i x e => ?_, fun id e => ?_, rfl, hA, ⟨fun id hid => by unfold upd; rw [if_pos hid], fun id hid => ?_, fun i ro rt b c hc => ?_, fun rt ms hms m hm => ?_⟩, by simp [St.new], rfl, rfl, rfl, by simp, fun B hB hf' => ⟨heap_alloc_old w _ _ hB, fun id o r e => ?_⟩, fun id hid _ _ => by rw [hget, if_neg (by omega)]⟩
  · rw [if_neg (fun e' => by rw [e', hρn] at e; cases e)]; exact e
  · split at e
    · rename_i hi; subst hi; exact ⟨Nat.le_refl _, by simp [St.new]⟩
    · exact absurd rfl e
  · simp only [St.new] at hid
    rw [hget, if_neg (by omega)]
    exact ha.wf id (by omega)
  · rw [hget] at hc
    split at hc
    · cases hc
    · have := ha.ref i ro rt b c hc; simp [St.new]; omega
  · rw [hget] at hms
    split at hms
    · cases hms
    · have := ha.mem rt ms hms m hm; simp [St.new]; omega
  · simp only at e
    split at e
    · simp only [Option.some.injEq, Prod.mk.injEq] at e; omega
    · rename_i hne
      obtain ⟨f, c, hc⟩ := hf' id o r e
      refine ⟨f, c, ?_⟩
      unfold upd
      split
      · rename_i hlt
        simp only [St.new] at hlt
        rw [hget, if_neg (by omega), ← ha.eq id (by omega)]
        exact hc
      · exact hc

theorem Rel.sl_addr {b off len : Nat} {cap : Cap} {u : Value} (hx : Rel ρ (.sl (some (b, off)) len cap) u) : ∃ B o r c, ρ b = some (B, o, r) ∧ (u = .slice (some ⟨B, o + off, none⟩) len c ∨ (len = 0 ∧ c = 0 ∧ ∃ x, u = .slice (some ⟨B, x, none⟩) 0 0)) := by
  cases cap with
  | known c => simp only [Rel] at hx; obtain ⟨B, o, r, h1, _, e⟩ := hx; exact ⟨B, o, r, c, h1, .inl e⟩
  | more lb sz =>
    simp only [Rel] at hx
    obtain ⟨B, o, r, c, h1, h2, h3, _, e | ⟨h4, x, e⟩⟩ := hx
    · exact ⟨B, o, r, c, h1, .inl e⟩
    · exact ⟨B, o, r, c, h1, .inr ⟨by omega, h4, x, e⟩⟩

theorem lenOf_sound {x : AV} {n : Nat} {u : Value} (e : lenA x = some n) (hx : Rel ρ x u) : ∀ w, (Builtin.lenOf u).run P w = .ok n w := by
  intro w
  unfold lenA at e
  split at e
  · cases e
    obtain ⟨p, c, rfl⟩ := hx.sl_form
    rfl
  · cases e
    have := hx.str_inv
    subst this
    simp [Builtin.lenOf, size_mk]
  · cases e

theorem source_sound (hr : HR ρ h w) (ha : Agree st h) {sz n : Nat} {x : AV} {u : Value} {l : List AV} (e : sourceA st sz n x = some l) (hx : Rel ρ x u) :
    ∃ vs, Rels ρ l vs ∧ (Builtin.firstCells sz n u).run P w = .ok vs.toArray w := by
  unfold sourceA at e
  split at e
  · rename_i b off len cap
    split at e
    · rename_i hle
      have hle' := Nat.le_of_ble_eq_true hle
      obtain ⟨ro, fam, cs, hb, hread⟩ := St.read_some e
      obtain ⟨B, o, r, c, hρ, hu⟩ := hx.sl_addr
      have hbn := St.get_lt ha hb
      obtain ⟨vs, hrel, hlen, hrun⟩ := read_sound hr (by rw [ha.eq b hbn]; exact hb) hρ hread
      rcases hu with rfl | ⟨h0, _, x, rfl⟩
      · exact ⟨vs, hrel, by simp [Builtin.firstCells, hrun]⟩
      · obtain rfl : n = 0 := by omega
        have : vs = [] := by simpa using hlen
        subst this
        exact ⟨[], hrel, by simp [Builtin.firstCells, loadCells, loadCellsFrom]⟩
    · cases e
  · rename_i len cap
    split at e
    · cases e
      simp only [Rel] at hx
      obtain ⟨_, _, rfl⟩ := hx
      exact ⟨[], Rels.nil, by simp [Builtin.firstCells]⟩
    · cases e
  · rename_i s
    split at e
    · rename_i hle
      cases e
      have := hx.str_inv
      subst this
      refine ⟨(s.take n).map fun b => .int .u8 b.toNat, ?_, ?_⟩
      · generalize s.take n = q
        induction q with
        | nil => exact Rels.nil
        | cons c q ih => exact Rels.cons (by simp [Rel]) ih
      · simp only [Builtin.firstCells, Sem.run_pure]
        congr 1
        apply Array.ext'
        simp [ByteArray.data_extract]
    · cases e
  · cases e

theorem copy_sound (hr : HR ρ h w) (ha : Agree st h) {e0 t u0 ty : TypeId} {d s v : AV} {du su : Value} {st' : St} (ht : P.underlying t = some (.slice e0)) (e : copyA P st e0 d s = some (v, st')) (hd : Rel ρ d du) (hs : Rel ρ s su) :
    ∃ x w', (Builtin.copy_ #[t, u0] ty #[du, su]).run P w = .ok x w' ∧ Post ρ h w st ρ (upd st' h) w' st' ∧ Rel ρ v x := by
  unfold copyA at e
  split at e
  · rename_i a len cap sz m hsz hm
    have hlen := lenOf_sound (P := P) hm hs
    split at e
    · cases e
    · rename_i cs hcs
      obtain ⟨vs, hrel, hrun⟩ := source_sound (P := P) hr ha hcs hs
      cases a with
      | none =>
        cases e
        simp only [Rel] at hd
        obtain ⟨rfl, _, rfl⟩ := hd
        refine ⟨.int .i64 (Nat.min m 0), w, ?_, by rw [upd_self ha]; exact Post.refl hr ha, by simp [Rel]⟩
        rw [show Nat.min m 0 = 0 from Nat.min_zero m] at hrun
        simp [Builtin.copy_, run_underlying ht, hlen, run_sizeA hsz, hrun, goInt]
      | some p =>
        obtain ⟨b, off⟩ := p
        simp only at e
        obtain ⟨B, o, r, c, hρ, hu⟩ := hd.sl_addr
        split at e
        · cases e
          have : vs = [] := by simpa using hrel.length
          subst this
          refine ⟨.int .i64 (Nat.min m len), w, ?_, by rw [upd_self ha]; exact Post.refl hr ha, by simp [Rel]⟩
          rcases hu with rfl | ⟨rfl, _, x, rfl⟩
          · simp [Builtin.copy_, run_underlying ht, hlen, run_sizeA hsz, hrun, goInt, storeCells]
          · rw [show Nat.min m 0 = 0 from Nat.min_zero m] at hrun
            simp [Builtin.copy_, run_underlying ht, hlen, run_sizeA hsz, hrun, goInt, storeCells]
        · rename_i hne
          split at e
          · rename_i st1 hw
            cases e
            obtain ⟨h1, h2, h3⟩ := write_sound (P := P) hr ha hρ hw hrel
            refine ⟨.int .i64 (Nat.min m len), _, ?_, h2, by simp [Rel]⟩
            rcases hu with rfl | ⟨rfl, _, x, rfl⟩
            · simp [Builtin.copy_, run_underlying ht, hlen, run_sizeA hsz, hrun, goInt, h1]
            · exfalso
              unfold sourceA at hcs
              rw [show Nat.min m 0 = 0 from Nat.min_zero m] at hcs
              split at hcs
              · split at hcs
                · obtain ⟨ro, fam, cs', hb, hread⟩ := St.read_some hcs
                  have := readL_length hread
                  rw [Nat.zero_mul] at this
                  exact hne (List.eq_nil_of_length_eq_zero this)
                · cases hcs
              · cases hcs; exact hne rfl
              · split at hcs
                · cases hcs; exact hne rfl
                · cases hcs
              · cases hcs
          · cases e
  · cases e

theorem clear_sound (hr : HR ρ h w) (ha : Agree st h) {e0 t ty : TypeId} {d v : AV} {du : Value} {st' : St} (ht : P.underlying t = some (.slice e0)) (e : clearA P st e0 d = some (v, st')) (hd : Rel ρ d du) :
    ∃ x w', (Builtin.clear_ #[t] ty #[du]).run P w = .ok x w' ∧ Post ρ h w st ρ (upd st' h) w' st' ∧ Rel ρ v x := by
  unfold clearA at e
  split at e
  · cases e
    obtain ⟨p, c, rfl⟩ := hd.sl_form
    refine ⟨.tuple #[], w, ?_, by rw [upd_self ha]; exact Post.refl hr ha, by simp [Rel, Rels]⟩
    cases p <;> simp [Builtin.clear_, run_underlying ht]
  · rename_i b off len cap z sz hne hz hs
    split at e
    · rename_i hb
      simp only [Bool.and_eq_true] at hb
      have hl := beq_true_eq hb.1
      have hpos : 0 < sz := by simpa [Nat.blt_eq] using hb.2
      split at e
      · rename_i st1 hw
        cases e
        obtain ⟨B, o, r, c, hρ, hu⟩ := hd.sl_addr
        obtain ⟨zv, hzr, hrel⟩ := run_zeroA hz ρ
        obtain ⟨h1, h2, h3⟩ := write_sound (P := P) hr ha hρ hw (hrel.cells.times len)
        refine ⟨.tuple #[], _, ?_, h2, by simp [Rel, Rels]⟩
        have hne0 : len ≠ 0 := fun e => by subst e; first | exact hne rfl | exact hne _ rfl | exact hne _ _ rfl | exact hne _ _ _ rfl
        rcases hu with rfl | ⟨rfl, _, x, rfl⟩
        · obtain ⟨k, rfl⟩ : ∃ k, len = k + 1 := ⟨len - 1, by omega⟩
          have hzl := hrel.cells.length
          simp only [Array.length_toList] at hzl
          simp [Builtin.clear_, run_underlying ht, hzr, zeroCells_times _ _ (show 0 < zv.cells.size ∨ k + 1 = 0 by left; omega), h1]
        · exact absurd rfl hne0
      · cases e
    · cases e
  · cases e

theorem store_sound (hr : HR ρ h w) (ha : Agree st h) {t : TypeId} {b off n : Nat} {v : AV} {pu vu : Value} {st' : St} (hn : sizeA P t = some n) (hl : Nat.beq v.cells.length n = true) (e : st.write b off v.cells = some st')
    (hp : Rel ρ (.ptr (some (b, off))) pu) (hv : Rel ρ v vu) :
    ∃ w', (Instr.storeAt t pu vu).run P w = .ok () w' ∧ Post ρ h w st ρ (upd st' h) w' st' := by
  simp only [Rel] at hp
  obtain ⟨B, o, r, hρ, rfl⟩ := hp
  obtain ⟨h1, h2, h3⟩ := write_sound (P := P) hr ha hρ e hv.cells
  have hlen := hv.cells.length
  simp only [Array.length_toList] at hlen
  have hl' := beq_true_eq hl
  refine ⟨_, ?_, h2⟩
  simp [Instr.storeAt, Instr.sureAddr, storeVar, run_sizeA hn, hlen, hl', h1]
end

end Go.Den
