/- Reads: the model carries them out as the symbolic machine says. -/
import Derived.Test.YtkfdfenaaidkkaaSyF
set_option linter.unusedSimpArgs false
set_option linter.unusedVariables false
namespace Go.Sy
open Go

theorem readL_elem {e : Sh} {l : List D} {i fo n : Nat} {cs : List AV} (hi : i < l.length) (h : readL (expand e (l.getD i .nul)) fo n = some cs) : readL (flat e l) (i * e.size + fo) n = some cs := by
  obtain ⟨hle, rfl⟩ := readL_some h
  rw [expand_length] at hle
  unfold readL
  have hfl := flat_length e l
  have hb : i * e.size + fo + n ≤ (flat e l).length := by
    rw [hfl]
    have : (i + 1) * e.size ≤ l.length * e.size := Nat.mul_le_mul_right _ hi
    rw [Nat.add_mul] at this
    omega
  rw [Nat.ble_eq_true_of_le hb]
  simp only [Option.some.injEq]
  rw [← flat_getD e l i hi, List.drop_take, List.drop_drop, List.take_take, Nat.min_eq_left (by omega)]

section
variable {P : Program} {ρ : Rho} {h : Hp} {w : World} {tmps : List AV} {a : Act}

/-- Of memory that nobody writes. -/
theorem rd_val_sound (hr : HR ρ h w) (htr : TR ρ tmps a.tmps) {o : Oper} {v : AV} (e : readA P tmps o.op = some (.val v)) : ∃ u, (execOp a.eval o).run P w = .ok (.value u) w ∧ Rel ρ v u := by
  obtain ⟨dst, op, type, pos, after, guard⟩ := o
  simp only at e
  unfold readA at e
  split at e
  · rename_i t x
    split at e
    · split at e <;> cases e
    · split at e <;> cases e
    · rename_i sh d hx
      have hrel := ev_sound htr hx
      simp only [Rel] at hrel
      obtain ⟨B, o, vs, hxv, hsh, hfz⟩ := hrel
      have hlen := hsh.length
      have hread := hr.frozen_read hfz P
      split at e
      · rename_i n hg hs
        split at e
        · rename_i hb
          cases e
          have hn := Nat.eq_of_beq_eq_true hb
          rw [hlen, hn] at hread
          refine ⟨.agg vs.toArray, ?_, by simp only [Rel]; exact ⟨vs, rfl, (rels_expand _ _ _).1 hsh⟩⟩
          simp [execOp, Instr.loadAt, hxv, Instr.sureAddr, loadVar, run_isAggA hg, run_sizeA hs, hread]
        · cases e
      · rename_i n hg hs
        split at e
        · rename_i v' hv
          cases e
          have hr1 := (rels_expand _ _ _).1 hsh
          rw [hv] at hr1
          simp only [Rels] at hr1
          obtain ⟨u, us, rfl, hu, rfl⟩ := hr1
          have hc := hr.fzh _ _ _ (hfz 0 u rfl)
          rw [Nat.add_zero] at hc
          refine ⟨u, ?_, hu⟩
          simp [execOp, Instr.loadAt, hxv, Instr.sureAddr, loadVar, run_isAggA hg, hc]
        · cases e
      · cases e
    · cases e
  · rename_i src dst' x
    split at e
    · rename_i e0 hs hd
      split at e
      · cases e
      · rename_i nn l he hx
        cases e
        have hrel := ev_sound htr hx
        simp only [Rel] at hrel
        refine ⟨.string ⟨((l.map D.asInt).map fun n => UInt8.ofNat n.toNat).toArray⟩, ?_, by simp only [Rel, bytesD_eq]⟩
        rcases hrel with ⟨_, rfl, hxv⟩ | ⟨B, o, cap, hxv, hc, hel⟩
        · exact run_conv_bytes (src := src) (dst := dst') (x := x) rfl hs hd he hxv ⟨rfl, rfl⟩
        · refine run_conv_bytes (src := src) (dst := dst') (x := x) rfl hs hd he hxv ?_
          have := hr.frozen_read (B := B) (o := o) (vs := (l.map D.asInt).map (Value.int .u8)) (fun j u hj => by
            rw [List.getElem?_map, List.getElem?_map, Option.map_map] at hj
            cases hlj : l[j]? with
            | none => rw [hlj] at hj; cases hj
            | some d =>
              rw [hlj] at hj
              simp only [Option.map_some, Function.comp, Option.some.injEq] at hj
              subst hj
              obtain ⟨vs, h1, h2⟩ := hel j d hlj
              simp only [RelSh] at h1
              subst h1
              have := h2 0 _ rfl
              simpa [Sh.size] using this) P
          simpa using this
      · cases e
      · cases e
    · cases e
  · cases e

/-- Of a block. -/
theorem rd_at_sound (hr : HR ρ h w) (htr : TR ρ tmps a.tmps) {o : Oper} {l : Loc} {mk : Made} {x : Ent} {v : AV} (e : readA P tmps o.op = some (.at l mk)) (hb : h l.blk = some x) (hx : entRead x l mk = some (true, v)) :
    ∃ u, (execOp a.eval o).run P w = .ok (.value u) w ∧ Rel ρ v u := by
  obtain ⟨dst, op, type, pos, after, guard⟩ := o
  simp only at e
  -- cells that are read, and what is made of them
  have key : ∀ (B o r off n : Nat) (cs l0 : List AV) (ro : Bool) (t : TypeId) (y : Operand) , ρ l.blk = some (B, o, r) → x.view = some (ro, cs) → readL cs off n = some l0 → madeA mk l0 = some v →
      a.eval y = .pointer (some ⟨B, o + off, none⟩) → ((mk = .agg ∧ isAggA P t = some true ∧ sizeA P t = some n) ∨ (mk = .one ∧ isAggA P t = some false ∧ n = 1)) → op = .load t y →
      ∃ u, (execOp a.eval { dst := dst, op := op, type := type, pos := pos, after := after, guard := guard }).run P w = .ok (.value u) w ∧ Rel ρ v u := by
    intro B o r off n cs l0 ro t y hρ hv hl hm hxv hk hop
    subst hop
    have H := hr.cell _ B o r x ro cs hρ hb hv
    rcases hk with ⟨rfl, hg, hs⟩ | ⟨rfl, hg, rfl⟩
    · obtain ⟨vs, h1, h2, h3⟩ := H.read hl
      simp only [madeA] at hm; cases hm
      refine ⟨.agg vs.toArray, ?_, by simp only [Rel]; exact ⟨vs, rfl, h1⟩⟩
      simp [execOp, Instr.loadAt, hxv, Instr.sureAddr, loadVar, run_isAggA hg, run_sizeA hs, h3]
    · obtain ⟨hle, rfl⟩ := readL_some hl
      obtain ⟨y, hy⟩ : ∃ y, cs[off]? = some y := ⟨cs[off]'(by omega), List.getElem?_eq_getElem (by omega)⟩
      have htake : (cs.drop off).take 1 = [y] := by
        rw [List.drop_eq_getElem_cons (show off < cs.length by omega)]
        simp only [List.take_succ_cons, List.take_zero]
        rw [List.getElem?_eq_getElem (by omega)] at hy
        cases hy; rfl
      rw [htake] at hm
      simp only [madeA] at hm; cases hm
      obtain ⟨u, hc, hrel⟩ := H.cellAt hy
      refine ⟨u, ?_, hrel⟩
      simp [execOp, Instr.loadAt, hxv, Instr.sureAddr, loadVar, run_isAggA hg, hc]
  unfold readA at e
  split at e
  · rename_i t y
    split at e
    · rename_i b off hy
      have hrel := ev_sound htr hy
      simp only [Rel] at hrel
      obtain ⟨B, o, r, hρ, hyv⟩ := hrel
      split at e
      · rename_i n hg hs
        cases e
        cases x with
        | cells cs =>
          simp only [entRead] at hx
          split at hx
          · rename_i l0 hl
            split at hx
            · rename_i v0 hm
              cases hx
              exact key B o r off n cs l0 false t y hρ rfl hl hm hyv (.inl ⟨rfl, hg, hs⟩) rfl
            · cases hx
          · cases hx
        | tbl ro e1 l1 => simp [entRead] at hx
        | dead => simp [entRead] at hx
      · rename_i n hg hs
        cases e
        cases x with
        | cells cs =>
          simp only [entRead] at hx
          split at hx
          · rename_i l0 hl
            split at hx
            · rename_i v0 hm
              cases hx
              exact key B o r off 1 cs l0 false t y hρ rfl hl hm hyv (.inr ⟨rfl, hg, rfl⟩) rfl
            · cases hx
          · cases hx
        | tbl ro e1 l1 => simp [entRead] at hx
        | dead => simp [entRead] at hx
      · cases e
    · rename_i e0 b i fo hy
      have hrel := ev_sound htr hy
      simp only [Rel] at hrel
      obtain ⟨B, o, r, hρ, hyv⟩ := hrel
      have fin : ∀ n mk', Rd.at (.elem e0 b i fo n) mk' = Rd.at l mk → ((mk' = .agg ∧ isAggA P t = some true ∧ sizeA P t = some n) ∨ (mk' = .one ∧ isAggA P t = some false ∧ n = 1)) →
          ∃ u, (execOp a.eval { dst := dst, op := .load t y, type := type, pos := pos, after := after, guard := guard }).run P w = .ok (.value u) w ∧ Rel ρ v u := by
        intro n mk' he hk
        cases he
        cases x with
        | cells cs => cases mk <;> simp [entRead] at hx
        | dead => simp [entRead] at hx
        | tbl ro e1 l1 =>
          simp only [entRead] at hx
          split at hx
          · rename_i cs hbeq hl
            split at hx
            · rename_i v0 hm
              simp only [Option.some.injEq, Prod.mk.injEq, decide_eq_true_eq] at hx
              obtain ⟨hi, rfl⟩ := hx
              have he := Sh.beq_eq _ _ hbeq
              subst he
              exact key B o r (i * e0.size + fo) n (flat e0 l1) cs ro t y hρ rfl (readL_elem hi hl) hm hyv hk rfl
            · cases hx
          · cases hx
      split at e
      · rename_i n hg hs
        cases e
        exact fin n .agg rfl (.inl ⟨rfl, hg, hs⟩)
      · rename_i n hg hs
        cases e
        exact fin 1 .one rfl (.inr ⟨rfl, hg, rfl⟩)
      · cases e
    · split at e
      · split at e <;> cases e
      · split at e <;> cases e
      · cases e
    · cases e
  · rename_i src dst' y
    split at e
    · rename_i e0 hs hd
      split at e
      · rename_i b off len cap he hy
        cases e
        have hrel := ev_sound htr hy
        simp only [Rel] at hrel
        obtain ⟨B, o, r, hρ, _, hyv⟩ := hrel
        cases x with
        | cells cs =>
          simp only [entRead] at hx
          split at hx
          · rename_i l0 hl
            split at hx
            · rename_i v0 hm
              cases hx
              have H := hr.cell _ B o r (.cells cs) false cs hρ hb rfl
              obtain ⟨vs, h1, h2, h3⟩ := H.read hl
              simp only [madeA] at hm
              obtain ⟨ns, e1, e2⟩ := made_bytes _ [] v hm
              subst e1 e2
              have e3 := rels_ints h1
              subst e3
              exact ⟨_, run_conv_bytes (src := src) (dst := dst') (x := y) rfl hs hd he hyv (h3 P), by simp [Rel]⟩
            · cases hx
          · cases hx
        | tbl ro e1 l1 => simp [entRead] at hx
        | dead => simp [entRead] at hx
      · cases e
      · rename_i nn b off len cap he hy
        cases e
        have hrel := ev_sound htr hy
        cases x with
        | cells cs => simp [entRead] at hx
        | dead => simp [entRead] at hx
        | tbl ro e1 l1 =>
          simp only [entRead] at hx
          split at hx
          · rename_i hbeq _
            simp only [Option.some.injEq, Prod.mk.injEq] at hx
            obtain ⟨hle, rfl⟩ := hx
            have hle := Nat.le_of_ble_eq_true hle
            have he1 := Sh.beq_eq _ _ hbeq
            subst he1
            refine ⟨.string ⟨((((l1.drop off).take len).map D.asInt).map fun n => UInt8.ofNat n.toNat).toArray⟩, ?_, by simp only [Rel, bytesD_eq]⟩
            simp only [Rel] at hrel
            obtain ⟨B, o, r, hρ, hrel⟩ := hrel
            rcases hrel with ⟨_, hlen0, _, _, hyv⟩ | ⟨c, _, _, _, hfit, hyv | ⟨hc0, z, hyv⟩⟩
            · subst hlen0
              exact run_conv_bytes (src := src) (dst := dst') (x := y) rfl hs hd he hyv ⟨rfl, by simp⟩
            · refine run_conv_bytes (src := src) (dst := dst') (x := y) rfl hs hd he hyv ?_
              have H := hr.cell _ B o r _ ro _ hρ hb rfl
              have hl : readL (flat (.int .u8) l1) off len = some (flat (.int .u8) ((l1.drop off).take len)) := by
                unfold readL
                have : off + len ≤ (flat (.int .u8) l1).length := by rw [flat_length]; simpa [Sh.size] using hle
                rw [Nat.ble_eq_true_of_le this, flat_take, flat_drop]
                simp [Sh.size]
              obtain ⟨vs, h1, h2, h3⟩ := H.read hl
              rw [flat_bytes] at h1
              have e3 := rels_ints h1
              subst e3
              have := h3 P
              simpa [Sh.size] using this
            · have hlen0 : len = 0 := by simp only [Cap.top] at *; omega
              subst hlen0
              refine run_conv_bytes (src := src) (dst := dst') (x := y) rfl hs hd he hyv ?_
              simp [loadCells, loadCellsFrom]
          · cases hx
      · cases e
    · cases e
  · cases e
end
end Go.Sy
