/- The abstract machine. -/
import Derived.Test.YtekedhfmdpbplaaDnA
set_option linter.unusedSimpArgs false
set_option linter.unusedVariables false
/- An operation of any kind, on the model's side. -/
namespace Go.Den
open Go

/-- What is asked of the program, once and for all. -/
structure ProgOk (P : Program) : Prop where
  orders : P.follows .mixedOrders = true
  names : ∀ (g : Nat) (fn : Func), P.funcs[g]? = some fn → fn.body ≠ none → (fn.name == "runtime.NumGoroutine") = false
  draws : ∀ (g : Nat) (fn : Func) (c : Code), P.funcs[g]? = some fn → fn.body = some c → drawsOkA P c = true
  ext : ∀ (g : Nat) (fn : Func) (ρ : Rho) (args : List AV) (vargs : List Value) (v : AV), P.funcs[g]? = some fn → fn.body = none → externA fn.name args = some v → Rels ρ args vargs →
    ∀ w, ∃ u, (callFunc g vargs.toArray).run P w = .ok (.value u) w ∧ Rel ρ v u

def Answers (P : Program) (ρ : Rho) (h : Hp) (w : World) (st : St) (v : AV) (st' : St) : Ending → World → Prop :=
  fun e w' => ∃ u ρ', e = .returned u ∧ Post ρ h w st ρ' (upd st' h) w' st' ∧ Rel ρ' v u
structure CallOk (P : Program) (call : CallA) : Prop where
  mono : ∀ g args st v st', call g args st = some (v, st') → st.n ≤ st'.n
  calls : ∀ g args st v st', call g args st = some (v, st') → ∀ (ρ : Rho) (h : Hp) (w : World) (vargs : List Value), HR ρ h w → Agree st h → Fresh ρ h st st' → Rels ρ args vargs →
    Calls P g vargs.toArray w (Answers P ρ h w st v st')

section
variable {P : Program} {call : CallA} {ρ : Rho} {h : Hp} {w : World} {st : St} {tmps : List AV} {a : Act}

/- ### reads -/
theorem made_bytes : ∀ (l : List AV) (acc : List UInt8) (v : AV), madeB l acc = some v → ∃ ns : List Int, l = ns.map (AV.int .u8) ∧ v = .str (acc.reverse ++ ns.map fun n => UInt8.ofNat n.toNat)
  | [], acc, v, e => by simp only [madeB] at e; cases e; exact ⟨[], rfl, by simp⟩
  | x :: r, acc, v, e => by
    cases x with
    | int k n =>
      cases k <;> simp only [madeB] at e <;> first | cases e | skip
      obtain ⟨ns, h1, h2⟩ := made_bytes r _ v e
      exact ⟨n :: ns, by simp [h1], by simp [h2]⟩
    | _ => simp only [madeB] at e; cases e
theorem rels_ints {ns : List Int} {vs : List Value} (h : Rels ρ (ns.map (AV.int .u8)) vs) : vs = ns.map (Value.int .u8) := by
  induction ns generalizing vs with
  | nil => simpa [Rels] using h
  | cons n ns ih =>
    simp only [List.map_cons, Rels, Rel] at h
    obtain ⟨v, vs', rfl, rfl, h2⟩ := h
    rw [ih h2]; rfl
theorem foldl_push (ns : List Int) : ∀ (b : ByteArray), ns.foldl (fun r n => r.push (UInt8.ofNat n.toNat)) b = ⟨(b.data.toList ++ ns.map fun n => UInt8.ofNat n.toNat).toArray⟩ := by
  induction ns with
  | nil => intro b; simp
  | cons n ns ih =>
    intro b
    rw [List.foldl_cons, ih]
    simp [ByteArray.push]

theorem read_real (hr : HR ρ h w) (htr : TR ρ tmps a.tmps) {o : Oper} {b off n : Nat} {mk : Made} {ro : Bool} {fam : Option (Nat × Nat)} {cs l : List AV} {v : AV} (e : readA P tmps o.op = some (b, off, n, mk))
    (hb : h b = some (.cells ro fam cs)) (hl : readL cs off n = some l) (hm : madeA mk l = some v) : ∃ u, (execOp a.eval o).run P w = .ok (.value u) w ∧ Rel ρ v u := by
  obtain ⟨dst, op, type, pos, after, guard⟩ := o
  simp only at e
  unfold readA at e
  split at e
  · rename_i t x
    split at e
    · rename_i b' off' hx
      have hrel := ev_sound htr hx
      simp only [Rel] at hrel
      obtain ⟨B, o, r, hρ, hxv⟩ := hrel
      split at e
      · rename_i k hg hs
        cases e
        obtain ⟨vs, h1, h2, h3⟩ := read_sound hr hb hρ hl
        simp only [madeA] at hm; cases hm
        refine ⟨.agg vs.toArray, ?_, by simp only [Rel]; exact ⟨vs, rfl, h1⟩⟩
        simp [execOp, Instr.loadAt, hxv, Instr.sureAddr, loadVar, run_isAggA hg, run_sizeA hs, h3]
      · rename_i k hg hs
        cases e
        have H := hr.cell _ B o r ro fam cs hρ hb
        obtain ⟨hle, rfl⟩ := readL_some hl
        obtain ⟨vs, h1, h2⟩ := H.vals
        have hlen := h1.length
        obtain ⟨y, hy⟩ : ∃ y, cs[off]? = some y := ⟨cs[off]'(by omega), List.getElem?_eq_getElem (by omega)⟩
        have htake : (cs.drop off).take 1 = [y] := by
          rw [List.drop_eq_getElem_cons (show off < cs.length by omega)]
          simp only [List.take_succ_cons, List.take_zero]
          rw [List.getElem?_eq_getElem (by omega)] at hy
          cases hy; rfl
        rw [htake] at hm
        simp only [madeA] at hm; cases hm
        obtain ⟨u, hu, hrel⟩ := h1.get off v hy
        refine ⟨u, ?_, hrel⟩
        have hc := h2 off u hu
        simp [execOp, Instr.loadAt, hxv, Instr.sureAddr, loadVar, run_isAggA hg, hc]
      · cases e
    · cases e
  · rename_i src dst' x
    split at e
    · rename_i e0 hs hd
      split at e
      · rename_i b' off' len cap he hx
        cases e
        have hrel := ev_sound htr hx
        obtain ⟨B, o, r, c, hρ, hu⟩ := hrel.sl_addr
        obtain ⟨vs, h1, h2, h3⟩ := read_sound hr hb hρ hl
        simp only [madeA] at hm
        obtain ⟨ns, e1, e2⟩ := made_bytes l [] v hm
        subst e1 e2
        have e3 := rels_ints h1
        subst e3
        refine ⟨.string ⟨(ns.map fun n => UInt8.ofNat n.toNat).toArray⟩, ?_, by simp [Rel]⟩
        have hconv : ∀ (bs : Option Addr) (n' c' : Nat), a.eval x = .slice bs n' c' → (Conv.bytesToString (.slice bs n' c')).run P w = .ok (.string ⟨(ns.map fun n => UInt8.ofNat n.toNat).toArray⟩) w →
            (execOp a.eval { dst := dst, op := .convert src dst' x, type := type, pos := pos, after := after, guard := guard }).run P w = .ok (.value (.string ⟨(ns.map fun n => UInt8.ofNat n.toNat).toArray⟩)) w := by
          intro bs n' c' hx' hrun
          simp only [execOp, Sem.run_bind, hx', run_convert_bytes_string w src dst' e0 bs n' c' hs he hd, hrun, Result.andThen_ok, Sem.run_pure]
        rcases hu with hu | ⟨h0, hc0, y, hu⟩
        · refine hconv _ _ _ hu ?_
          rw [run_bytesToString w _ _ _ ns (h3 P), foldl_push]
          simp
        · refine hconv _ _ _ hu ?_
          subst h0
          have : ns = [] := by simpa using h2
          subst this
          rw [run_bytesToString w _ _ _ [] (by simp [loadCells, loadCellsFrom])]
          rfl
      · cases e
    · cases e
  · cases e

/- ### effects -/
theorem write_n {b off : Nat} {as : List AV} {st' : St} (e : st.write b off as = some st') : st'.n = st.n := by
  unfold St.write at e
  split at e
  · split at e
    · cases e
    · split at e
      · cases e; rfl
      · split at e
        · generalize poison _ _ _ _ _ = q at e
          obtain ⟨x, y⟩ := q
          cases e; rfl
        · cases e
  · cases e
theorem append_n {e0 : TypeId} {s x v : AV} {st' : St} (e : appendA P st e0 s x = some (v, st')) : st.n ≤ st'.n := by
  unfold appendA at e
  split at e
  · split at e
    · cases e
    · split at e
      · cases e
      · split at e
        · cases e
        · split at e
          · split at e
            · cases e; exact Nat.le_refl _
            · split at e
              · cases e; exact Nat.le_refl _
              · split at e
                · rename_i hw; cases e; rw [write_n hw]; exact Nat.le_refl _
                · cases e
          · split at e
            · split at e
              · cases e
              · split at e
                · cases e
                · split at e
                  · cases e; simp [St.newOpen]
                  · cases e
            · split at e
              · split at e
                · split at e
                  · split at e
                    · cases e
                    · generalize poison _ _ _ _ _ = q at e
                      obtain ⟨y, z⟩ := q
                      cases e; simp
                  · cases e
                · cases e
              · cases e
  · cases e
theorem copy_n {e0 : TypeId} {d s v : AV} {st' : St} (e : copyA P st e0 d s = some (v, st')) : st.n ≤ st'.n := by
  unfold copyA at e
  split at e
  · split at e
    · cases e
    · split at e
      · cases e; exact Nat.le_refl _
      · split at e
        · cases e; exact Nat.le_refl _
        · split at e
          · rename_i hw; cases e; rw [write_n hw]; exact Nat.le_refl _
          · cases e
  · cases e
theorem clear_n {e0 : TypeId} {d v : AV} {st' : St} (e : clearA P st e0 d = some (v, st')) : st.n ≤ st'.n := by
  unfold clearA at e
  split at e
  · cases e; exact Nat.le_refl _
  · split at e
    · split at e
      · rename_i hw; cases e; rw [write_n hw]; exact Nat.le_refl _
      · cases e
    · cases e
  · cases e
theorem eff_n (hc : CallOk P call) {o : Op} {v : AV} {st' : St} (e : effA P call tmps st o = some (v, st')) : st.n ≤ st'.n := by
  unfold effA at e
  split at e
  · split at e
    · split at e
      · split at e
        · rename_i hw; cases e; rw [write_n hw]; exact Nat.le_refl _
        · cases e
      · cases e
    · cases e
  · split at e
    · exact append_n e
    · exact append_n e
    · cases e
  · split at e
    · exact copy_n e
    · cases e
  · split at e
    · exact clear_n e
    · cases e
  · split at e
    · split at e
      · split at e
        · exact hc.mono _ _ _ _ _ e
        · split at e
          · cases e; exact Nat.le_refl _
          · cases e
      · cases e
    · cases e
  · cases e
theorem op_n (hc : CallOk P call) {o : Op} {v : AV} {st' : St} (e : opA P call tmps st o = some (v, st')) : st.n ≤ st'.n := by
  unfold opA at e
  split at e
  · split at e
    · cases e; exact Nat.le_refl _
    · cases e
  · split at e
    · cases e; simp [St.new]
    · cases e
  · split at e
    · split at e
      · split at e
        · cases e; exact Nat.le_refl _
        · cases e
      · cases e
    · cases e
  · exact eff_n hc e

theorem eff_sound (ok : ProgOk P) (hc : CallOk P call) (hr : HR ρ h w) (ha : Agree st h) (htr : TR ρ tmps a.tmps) {o : Oper} {v : AV} {st' : St} (e : effA P call tmps st o.op = some (v, st')) (hf : Fresh ρ h st st')
    {next : Act → World → Prop} {Q : Exit → Act → World → Prop} (hk : ∀ ρ' w' u, Post ρ h w st ρ' (upd st' h) w' st' → Rel ρ' v u → next (a.put o.dst u) w') : o.wp P a w next Q := by
  obtain ⟨dst, op, type, pos, after, guard⟩ := o
  simp only at e hk
  unfold Oper.wp
  unfold effA at e
  split at e
  · rename_i t p x
    split at e
    · rename_i b off v0 n hp hx hn
      split at e
      · rename_i hl
        split at e
        · rename_i st1 hw
          cases e
          obtain ⟨w', h1, h2⟩ := store_sound (P := P) hr ha hn hl hw (ev_sound htr hp) (ev_sound htr hx)
          have : (execOp a.eval { dst := dst, op := .store t p x, type := type, pos := pos, after := after, guard := guard }).run P w = .ok .skip w' := by
            simp [execOp, h1]
          rw [this, Oper.upon_skip]
          exact hk _ _ _ h2 (rel_undef _)
        · cases e
      · cases e
    · cases e
  · rename_i s x t u0
    have key : ∀ (e0 : TypeId) (d : TypeDesc) (sv xv : AV), P.underlying t = some (.slice e0) → P.underlying u0 = some d → (∀ k, d ≠ .int k) → evA tmps s = some sv → evA tmps x = some xv → appendA P st e0 sv xv = some (v, st') →
        Oper.upon P { dst := dst, op := .call { callee := .builtin .append, args := #[s, x], argTypes := #[t, u0] }, type := type, pos := pos, after := after, guard := guard } a next Q
          ((execOp a.eval { dst := dst, op := .call { callee := .builtin .append, args := #[s, x], argTypes := #[t, u0] }, type := type, pos := pos, after := after, guard := guard }).run P w) := by
      intro e0 d sv xv ht hu hd hs hx he
      obtain ⟨r, w', ρ', h1, h2, h3⟩ := append_sound (P := P) (ty := type) hr ha ht hu hd he (ev_sound htr hs) (ev_sound htr hx) hf
      have : (execOp a.eval { dst := dst, op := .call { callee := .builtin .append, args := #[s, x], argTypes := #[t, u0] }, type := type, pos := pos, after := after, guard := guard }).run P w = .ok (.value r) w' := by
        simp [execOp, resolve, invoke, builtin, h1]
      rw [this, Oper.upon_value]
      exact hk _ _ _ h2 h3
    split at e
    · rename_i e0 e1 sv xv ht hu hs hx
      exact key e0 _ sv xv ht hu (fun k => by simp) hs hx e
    · rename_i e0 sv xv ht hu hs hx
      exact key e0 _ sv xv ht hu (fun k => by simp) hs hx e
    · cases e
  · rename_i d s t u0
    split at e
    · rename_i e0 dv sv ht hd hs
      obtain ⟨r, w', h1, h2, h3⟩ := copy_sound (P := P) (u0 := u0) (ty := type) hr ha ht e (ev_sound htr hd) (ev_sound htr hs)
      have : (execOp a.eval { dst := dst, op := .call { callee := .builtin .copy, args := #[d, s], argTypes := #[t, u0] }, type := type, pos := pos, after := after, guard := guard }).run P w = .ok (.value r) w' := by
        simp [execOp, resolve, invoke, builtin, h1]
      rw [this, Oper.upon_value]
      exact hk _ _ _ h2 h3
    · cases e
  · rename_i x t
    split at e
    · rename_i e0 xv ht hx
      obtain ⟨r, w', h1, h2, h3⟩ := clear_sound (P := P) (ty := type) hr ha ht e (ev_sound htr hx)
      have : (execOp a.eval { dst := dst, op := .call { callee := .builtin .clear, args := #[x], argTypes := #[t] }, type := type, pos := pos, after := after, guard := guard }).run P w = .ok (.value r) w' := by
        simp [execOp, resolve, invoke, builtin, h1]
      rw [this, Oper.upon_value]
      exact hk _ _ _ h2 h3
    · cases e
  · rename_i f args ats
    split at e
    · rename_i g first caps l hfv hl
      have hfr := ev_sound htr hfv
      simp only [Rel] at hfr
      obtain ⟨fx, fy, hfe, hr1, hr2⟩ := hfr
      have hargs := evs_sound htr hl
      have hrels : Rels ρ (first ++ l ++ caps) (fx ++ args.toList.map a.eval ++ fy) := (hr1.append hargs).append hr2
      have hres : (execOp a.eval { dst := dst, op := .call { callee := .value f, args := args, argTypes := ats }, type := type, pos := pos, after := after, guard := guard }).run P w =
          (callFunc g (fx ++ args.toList.map a.eval ++ fy).toArray).run P w := by
        have e1 : args.map a.eval = (args.toList.map a.eval).toArray := by apply Array.ext'; simp
        simp only [execOp, resolve, hfe, e1, Deferred.ofValue, Sem.run_bind, Sem.run_pure, Result.andThen_ok, invoke]
        simp
      rw [hres]
      split at e
      · rename_i fn hfn
        split at e
        · rename_i c hbody
          have hname := ok.names g fn hfn (by rw [hbody]; simp)
          have hcf : (callFunc g (fx ++ args.toList.map a.eval ++ fy).toArray).run P w = .ok (.enter g (fx ++ args.toList.map a.eval ++ fy).toArray) w := by
            have hname' : ¬ fn.name = "runtime.NumGoroutine" := by simpa using hname
            simp [callFunc, hfn, hname', hbody]
          rw [hcf, Oper.upon_enter]
          refine (hc.calls g _ st v st' e ρ h w _ hr ha hf hrels).mono ?_
          rintro e' w' ⟨u, ρ', rfl, hp, hv⟩
          exact hk ρ' w' u hp hv
        · rename_i hbody
          split at e
          · rename_i v0 hx
            cases e
            obtain ⟨u, h1, h2⟩ := ok.ext g fn ρ _ _ _ hfn hbody hx hrels w
            rw [h1, Oper.upon_value]
            exact hk ρ w u (by rw [upd_self ha]; exact Post.refl hr ha) h2
          · cases e
      · cases e
    · cases e
  · cases e

theorem op_sound (ok : ProgOk P) (hc : CallOk P call) (hr : HR ρ h w) (ha : Agree st h) (htr : TR ρ tmps a.tmps) {o : Oper} {v : AV} {st' : St} (e : opA P call tmps st o.op = some (v, st')) (hf : Fresh ρ h st st')
    {next : Act → World → Prop} {Q : Exit → Act → World → Prop} (hk : ∀ ρ' w' u, Post ρ h w st ρ' (upd st' h) w' st' → Rel ρ' v u → next (a.put o.dst u) w') : o.wp P a w next Q := by
  unfold opA at e
  split at e
  · split at e
    · rename_i v0 hv
      cases e
      obtain ⟨u, h1, h2⟩ := pure_sound (P := P) w htr hv
      unfold Oper.wp
      rw [h1, Oper.upon_value]
      exact hk ρ w u (by rw [upd_self ha]; exact Post.refl hr ha) h2
    · cases e
  · split at e
    · rename_i v0 cs hv
      cases e
      obtain ⟨u, vs, ty, h1, h2, h3⟩ := alloc_real (P := P) w htr hv
      have hP := new_Post (ty := ty) hr ha hf h2
      unfold Oper.wp
      rw [h1, Oper.upon_value]
      exact hk _ _ u hP (h3 _ (by simp))
    · cases e
  · split at e
    · rename_i b off n mk hv
      split at e
      · rename_i l hl
        split at e
        · rename_i v0 hm
          cases e
          obtain ⟨ro, fam, cs, hb, hread⟩ := St.read_some hl
          have hbn := St.get_lt ha hb
          obtain ⟨u, h1, h2⟩ := read_real (P := P) hr htr hv (by rw [ha.eq b hbn]; exact hb) hread hm
          unfold Oper.wp
          rw [h1, Oper.upon_value]
          exact hk ρ w u (by rw [upd_self ha]; exact Post.refl hr ha) h2
        · cases e
      · cases e
    · cases e
  · exact eff_sound ok hc hr ha htr e hf hk
end

end Go.Den

/- Operations in the text's order. -/
namespace Go.Den
open Go

section
variable {P : Program} {call : CallA} {ρ : Rho} {h : Hp} {w : World} {st : St} {tmps : List AV} {a : Act}

theorem TR.put (htr : TR ρ tmps a.tmps) {dst : Option Tmp} {v : AV} {u : Value} (hv : Rel ρ v u) : TR ρ (putA tmps dst v) (a.put dst u).tmps := by
  cases dst with
  | none => exact htr
  | some d =>
    refine ⟨by simp [putA, Act.put, htr.1], fun t => ?_⟩
    simp only [putA, Act.put]
    by_cases htd : t = d
    · subst htd
      by_cases hlt : t < tmps.length
      · have hlt' : t < a.tmps.size := by rw [← htr.1]; exact hlt
        simp [List.getD, Array.getD, hlt, hlt', hv]
      · have hlt' : ¬ t < a.tmps.size := by rw [← htr.1]; exact hlt
        simp [List.getD, Array.getD, hlt, hlt', rel_undef]
    · have h2 := htr.2 t
      have e1 : (tmps.set d v).getD t undefA = tmps.getD t undefA := by
        simp only [List.getD, List.getElem?_set_ne (fun e => htd e.symm)]
      have e2 : (a.tmps.setIfInBounds d u).getD t undef = a.tmps.getD t undef := by
        rw [Array.getD_eq_getD_getElem?, Array.getD_eq_getD_getElem?, Array.getElem?_setIfInBounds_ne (fun e => htd e.symm)]
      rw [e1, e2]
      exact h2

/-- Whether an operation is carried out, is told by the slots alone. -/
theorem guard_eq (htr : TR ρ tmps a.tmps) (ops : Array Oper) (o : Oper) : Region.wanted o (yielded ops a.tmps) = guardA ops tmps o := by
  unfold Region.wanted guardA
  cases hgd : o.guard with
  | none => rfl
  | some p =>
    obtain ⟨j, want⟩ := p
    simp only
    unfold yielded
    cases hj : ops[j]? with
    | none => simp
    | some g =>
      simp only [Option.bind_some]
      cases hd : g.dst with
      | none => simp
      | some d =>
        simp only [Option.bind_some]
        have h2 := htr.2 d
        by_cases hlt : d < tmps.length
        · have hlt' : d < a.tmps.size := by rw [← htr.1]; exact hlt
          have e1 : tmps[d]? = some (tmps[d]) := List.getElem?_eq_getElem hlt
          have e2 : a.tmps[d]? = some (a.tmps[d]) := Array.getElem?_eq_getElem hlt'
          have e3 : tmps.getD d undefA = tmps[d] := by simp [List.getD, e1]
          have e4 : a.tmps.getD d undef = a.tmps[d] := by simp [Array.getD, hlt']
          rw [e3, e4] at h2
          rw [e1, e2]
          generalize tmps[d] = x at h2
          generalize a.tmps[d] = y at h2
          by_cases hx : ∃ b, x = .bool b
          · obtain ⟨b, rfl⟩ := hx
            simp only [Rel] at h2
            subst h2
            simp
          · have hy : ∀ b, y ≠ .bool b := fun b e => by subst e; exact hx ⟨b, h2.bool_inv⟩
            clear h2 e1 e2 e3 e4
            cases x <;> first | exact absurd ⟨_, rfl⟩ hx | (cases y <;> first | rfl | exact absurd rfl (hy _))
        · have hlt' : ¬ d < a.tmps.size := by rw [← htr.1]; exact hlt
          rw [List.getElem?_eq_none (Nat.le_of_not_lt hlt), Array.getElem?_eq_none (Nat.le_of_not_lt hlt')]
          rfl

theorem step_n (hc : CallOk P call) {ops : Array Oper} {o : Oper} {tmps' : List AV} {st' : St} (e : stepA P call ops o tmps st = some (tmps', st')) : st.n ≤ st'.n := by
  unfold stepA at e
  split at e
  · cases e; exact Nat.le_refl _
  · split at e
    · rename_i v st1 hop
      cases e
      exact op_n hc hop
    · cases e
theorem ops_n (hc : CallOk P call) {ops : Array Oper} : ∀ (l : List Oper) (tmps : List AV) (st : St) (tmps' : List AV) (st' : St), opsA P call ops l tmps st = some (tmps', st') → st.n ≤ st'.n
  | [], tmps, st, tmps', st', e => by simp only [opsA] at e; cases e; exact Nat.le_refl _
  | o :: l, tmps, st, tmps', st', e => by
    simp only [opsA] at e
    split at e
    · rename_i t1 s1 h1
      exact Nat.le_trans (step_n hc h1) (ops_n hc l _ _ _ _ e)
    · cases e

theorem ops_sound (ok : ProgOk P) (hc : CallOk P call) {ops : Array Oper} {Q : Exit → Act → World → Prop} : ∀ (l : List Oper) (ρ : Rho) (h : Hp) (w : World) (st : St) (tmps : List AV) (a : Act) (tmps' : List AV) (st' : St),
    opsA P call ops l tmps st = some (tmps', st') → HR ρ h w → Agree st h → TR ρ tmps a.tmps → Fresh ρ h st st' →
    (∀ ρ' w' a', Post ρ h w st ρ' (upd st' h) w' st' → TR ρ' tmps' a'.tmps → a'.defers = a.defers → Q .normal a' w') → wpList P ops Q l a w
  | [], ρ, h, w, st, tmps, a, tmps', st', e, hr, ha, htr, hf, hk => by
    simp only [opsA] at e; cases e
    exact hk ρ w a (by rw [upd_self ha]; exact Post.refl hr ha) htr rfl
  | o :: l, ρ, h, w, st, tmps, a, tmps', st', e, hr, ha, htr, hf, hk => by
    simp only [opsA] at e
    split at e
    · rename_i t1 s1 h1
      have n1 := step_n hc h1
      have n2 := ops_n hc l _ _ _ _ e
      unfold stepA at h1
      refine wpList_step fun K hK => ?_
      rw [guard_eq htr ops o]
      split at h1
      · rename_i hg
        cases h1
        rw [hg]
        simp only [Bool.false_eq_true, if_false]
        refine hK _ _ (ops_sound ok hc l ρ h w st _ (a.put o.dst undef) tmps' st' e hr ha (htr.put (rel_undef ρ)) hf (fun ρ' w' a' hp ht hd => hk ρ' w' a' hp ht ?_))
        rw [hd]; cases o.dst <;> rfl
      · rename_i hg
        rw [hg]
        simp only [if_true]
        split at h1
        · rename_i v st2 hop
          cases h1
          refine op_sound ok hc hr ha htr hop (hf.first n1 n2) (fun ρ1 w1 u hp hv => hK _ _ ?_)
          refine ops_sound ok hc l ρ1 (upd s1 h) w1 s1 _ (a.put o.dst u) tmps' st' e hp.hr hp.agree ((htr.mono hp.ext).put hv) (hf.next hp n2) (fun ρ' w' a' hp' ht hd => hk ρ' w' a' ?_ ht ?_)
          · have := hp.trans hp'
            rwa [show upd st' (upd s1 h) = upd st' h from by
              funext id; unfold upd; split
              · rfl
              · rw [if_neg (by omega)]] at this
          · rw [hd]; cases o.dst <;> rfl
        · cases h1
    · cases e
end

end Go.Den

/- An operation hangs on its operands alone. The text's order, state by state. -/
namespace Go.Den
open Go

section
variable {P : Program} {call : CallA}

theorem evs_congr {t t' : List AV} : ∀ (xs : List Operand), (∀ x ∈ xs, evA t x = evA t' x) → evsA t xs = evsA t' xs
  | [], _ => rfl
  | x :: xs, h => by
    simp only [evsA]
    rw [h x (by simp), evs_congr xs (fun y hy => h y (by simp [hy]))]
theorem evOpt_congr {t t' : List AV} (x : Option Operand) (h : ∀ y, x = some y → evA t y = evA t' y) : evOptA t x = evOptA t' x := by
  cases x with
  | none => rfl
  | some y => simp only [evOptA, h y rfl]
theorem evParts_congr {t t' : List AV} : ∀ (xs : List (Nat × Operand)), (∀ x ∈ xs, evA t x.2 = evA t' x.2) → evPartsA t xs = evPartsA t' xs
  | [], _ => rfl
  | (i, x) :: xs, h => by
    simp only [evPartsA]
    rw [h (i, x) (by simp), evParts_congr xs (fun y hy => h y (by simp [hy]))]

theorem pure_congr {t t' : List AV} {o : Op} (h : ∀ x ∈ o.operands, evA t x = evA t' x) : pureA P t o = pureA P t' o := by
  unfold pureA
  split <;> simp only [Op.operands, Call.operands] at h
  · exact h _ (by simp)
  · exact h _ (by simp)
  · rw [h _ (by simp : _ ∈ #[_, _, _])]; rename_i c x y; rw [h x (by simp), h y (by simp)]
  · rename_i ty parts; rw [evParts_congr parts.toList (fun x hx => h x.2 (by simp; exact ⟨x.1, by simpa using hx⟩))]
  · rw [h _ (by simp)]
  · rename_i op ty x y yt; rw [h x (by simp), h y (by simp)]
  · rw [h _ (by simp)]
  · rw [h _ (by simp)]
  · rename_i f first captured; rw [evs_congr first.toList (fun x hx => h x (by simp at hx ⊢; exact .inl hx)), evs_congr captured.toList (fun x hx => h x (by simp at hx ⊢; exact .inr hx))]
  · rename_i ty x lo hi mx
    rw [h x (by simp), evOpt_congr lo (fun y e => h y (by subst e; simp)), evOpt_congr hi (fun y e => h y (by subst e; simp)), evOpt_congr mx (fun y e => h y (by subst e; simp))]
  · rw [h _ (by simp)]
  · rw [h _ (by simp)]
  · rename_i ty x ix; rw [h x (by simp), h ix (by simp)]
  · rename_i ty x ix; rw [h x (by simp), h ix (by simp)]
  · rw [h _ (by simp)]
  · rw [h _ (by simp)]
  · rw [h _ (by simp)]
  · rename_i args _; rw [evs_congr args.toList (fun x hx => h x (by simpa using hx))]
  · rename_i args _; rw [evs_congr args.toList (fun x hx => h x (by simpa using hx))]
  · rfl
theorem alloc_congr {t t' : List AV} {n : Nat} {o : Op} (h : ∀ x ∈ o.operands, evA t x = evA t' x) : allocA P t n o = allocA P t' n o := by
  unfold allocA
  split <;> simp only [Op.operands, Call.operands] at h
  · rfl
  · rw [h _ (by simp)]
  · rename_i ty len parts; rw [evParts_congr parts.toList (fun x hx => h x.2 (by simp; exact ⟨x.1, by simpa using hx⟩))]
  · rename_i ty l c; rw [h l (by simp), h c (by simp)]
  · rfl
theorem read_congr {t t' : List AV} {o : Op} (h : ∀ x ∈ o.operands, evA t x = evA t' x) : readA P t o = readA P t' o := by
  unfold readA
  split <;> simp only [Op.operands, Call.operands] at h
  · rw [h _ (by simp)]
  · rw [h _ (by simp)]
  · rfl
theorem eff_congr {t t' : List AV} {st : St} {o : Op} (h : ∀ x ∈ o.operands, evA t x = evA t' x) : effA P call t st o = effA P call t' st o := by
  unfold effA
  split <;> simp only [Op.operands, Call.operands] at h
  · rename_i ty p x; rw [h p (by simp), h x (by simp)]
  · rename_i s x ty u; rw [h s (by simp), h x (by simp)]
  · rename_i s x ty u; rw [h s (by simp), h x (by simp)]
  · rw [h _ (by simp)]
  · rename_i f args ats; rw [h f (by simp), evs_congr args.toList (fun x hx => h x (by simp at hx ⊢; exact .inr hx))]
  · rfl
theorem op_congr {t t' : List AV} {st : St} {o : Op} (h : ∀ x ∈ o.operands, evA t x = evA t' x) : opA P call t st o = opA P call t' st o := by
  unfold opA
  rw [pure_congr h, alloc_congr h, read_congr h, eff_congr h]

theorem putA_length (t : List AV) (d : Option Tmp) (v : AV) : (putA t d v).length = t.length := by cases d <;> simp [putA]
theorem putA_other (t : List AV) (d : Option Tmp) (v : AV) (s : Nat) (h : d ≠ some s) : (putA t d v).getD s undefA = t.getD s undefA := by
  cases d with
  | none => rfl
  | some d => simp only [putA, List.getD]; rw [List.getElem?_set_ne (fun e => h (by rw [e]))]
theorem putA_same (t t' : List AV) (d : Tmp) (v : AV) (h : t.length = t'.length) : (putA t (some d) v).getD d undefA = (putA t' (some d) v).getD d undefA := by
  simp only [putA, List.getD]
  by_cases hd : d < t.length
  · have hd' : d < t'.length := by rw [← h]; exact hd
    simp [hd, hd']
  · have hd' : ¬ d < t'.length := by rw [← h]; exact hd
    simp [hd, hd']

/-- What a step of the text's order does. -/
theorem step_put {ops : Array Oper} {o : Oper} {t t1 : List AV} {s s1 : St} (e : stepA P call ops o t s = some (t1, s1)) :
    (guardA ops t o = false ∧ t1 = putA t o.dst undefA ∧ s1 = s) ∨ (guardA ops t o = true ∧ ∃ v, opA P call t s o.op = some (v, s1) ∧ t1 = putA t o.dst v) := by
  unfold stepA at e
  split at e
  · rename_i hg; cases e; exact .inl ⟨hg, rfl, rfl⟩
  · rename_i hg
    split at e
    · rename_i v s2 hop; cases e; exact .inr ⟨hg, v, hop, rfl⟩
    · cases e

/-- What is known of the text's order. -/
structure Text (P : Program) (call : CallA) (ops : Array Oper) (bef : List Nat) (T : Nat → List AV) (S : Nat → St) : Prop where
  step : ∀ (p : Nat) (o : Oper), ops[p]? = some o → stepA P call ops o (T p) (S p) = some (T (p + 1), S (p + 1))
  stable : ∀ (p : Nat) (o : Oper), ops[p]? = some o → isRead P o.op = true → guardA ops (T p) o = true → ∃ b off k mk, readA P (T p) o.op = some (b, off, k, mk) ∧
    ∀ (e : Nat) (oe : Oper), ops[e]? = some oe → isEff P oe.op = true → guardA ops (T e) oe = true → ordA bef p e = false → ordA bef e p = false → leavesA b off k ((S p).read b off k) (S e) (S (e + 1)) = true
  pair : ∀ (i j : Nat) (x y : Oper), i < j → ops[i]? = some x → ops[j]? = some y → ordA bef i j = true ∨ (x.apart ops y = true ∧ ¬ (isEff P x.op = true ∧ isEff P y.op = true))
  edges : ∀ (j : Nat) (o : Oper) (e : Edge), ops[j]? = some o → e ∈ o.after.toList → Region.binds .any e = true → e.on < j
  closed : ∀ (L : Nat → Prop), (∀ (j : Nat) (o : Oper) (e : Edge), ops[j]? = some o → L j → e ∈ o.after.toList → Region.binds .any e = true → L e.on) → ∀ i j o, ops[j]? = some o → L j → ordA bef i j = true → L i

variable {ops : Array Oper} {bef : List Nat} {T : Nat → List AV} {S : Nat → St}

theorem Text.n_step (hc : CallOk P call) (X : Text P call ops bef T S) {p : Nat} (hp : p < ops.size) : (S p).n ≤ (S (p + 1)).n :=
  step_n hc (X.step p ops[p] (Array.getElem?_eq_getElem hp))
theorem Text.n_mono (hc : CallOk P call) (X : Text P call ops bef T S) {p : Nat} : ∀ (q : Nat), q ≤ ops.size → p ≤ q → (S p).n ≤ (S q).n := by
  intro q
  induction q with
  | zero => intro _ h; have : p = 0 := by omega
            subst this; exact Nat.le_refl _
  | succ q ih =>
    intro hq h
    by_cases e : p = q + 1
    · subst e; exact Nat.le_refl _
    · exact Nat.le_trans (ih (by omega) (by omega)) (X.n_step hc (by omega))
theorem Text.length (X : Text P call ops bef T S) : ∀ (q : Nat), q ≤ ops.size → (T q).length = (T 0).length := by
  intro q
  induction q with
  | zero => intro _; rfl
  | succ q ih =>
    intro hq
    have e := X.step q ops[q] (Array.getElem?_eq_getElem (by omega))
    rcases step_put e with ⟨_, e1, _⟩ | ⟨_, v, _, e1⟩ <;> rw [e1, putA_length] <;> exact ih (by omega)
/-- A slot stays as it is where nobody writes it. -/
theorem Text.same (X : Text P call ops bef T S) {t i : Nat} : ∀ (q : Nat), q ≤ ops.size → i ≤ q → (∀ k o, i ≤ k → k < q → ops[k]? = some o → o.dst ≠ some t) → (T q).getD t undefA = (T i).getD t undefA := by
  intro q
  induction q with
  | zero => intro _ h _; have : i = 0 := by omega
            subst this; rfl
  | succ q ih =>
    intro hq h hw
    by_cases e : i = q + 1
    · subst e; rfl
    · have e0 := X.step q ops[q] (Array.getElem?_eq_getElem (by omega))
      have hd := hw q ops[q] (by omega) (by omega) (Array.getElem?_eq_getElem (by omega))
      have h2 := ih (by omega) (by omega) (fun k o h1 h2 => hw k o h1 (by omega))
      rcases step_put e0 with ⟨_, e1, _⟩ | ⟨_, v, _, e1⟩ <;> rw [e1, putA_other _ _ _ _ hd] <;> exact h2

/-- Not an effect that is carried out: what is there stays. -/
def Idle (P : Program) (ops : Array Oper) (T : Nat → List AV) (p : Nat) : Prop := ∀ o, ops[p]? = some o → isEff P o.op = true → guardA ops (T p) o = false
theorem clsOf_read {o : Op} (h : clsOf P o = .read) : isRead P o = true ∧ isEff P o = false := by simp [isRead, isEff, h]
theorem Text.idle_step (X : Text P call ops bef T S) {p : Nat} (hp : p < ops.size) (hi : Idle P ops T p) :
    (∀ id, id < (S p).n → (S (p + 1)).get id = (S p).get id) ∧ (∀ id, (S p).n ≤ id → id < (S (p + 1)).n → ∃ cs, (S (p + 1)).get id = some (.cells false none cs)) ∧
      (∀ h, Agree (S p) h → ∀ h', (∀ id, id < (S (p + 1)).n → h' id = (S (p + 1)).get id) → Agree (S (p + 1)) h') := by
  have e := X.step p ops[p] (Array.getElem?_eq_getElem hp)
  rcases step_put e with ⟨_, _, e1⟩ | ⟨hg, v, hop, e1⟩
  · rw [e1]
    refine ⟨fun _ _ => rfl, fun id h1 h2 => by omega, fun h ha h' hh => ⟨hh, ha.wf, ha.ref, ha.mem⟩⟩
  · have hne : isEff P ops[p].op ≠ true := fun he => by rw [hi _ (Array.getElem?_eq_getElem hp) he] at hg; cases hg
    unfold opA at hop
    split at hop
    · split at hop
      · simp only [Option.some.injEq, Prod.mk.injEq] at hop
        obtain ⟨_, hop⟩ := hop
        rw [← hop]
        refine ⟨fun _ _ => rfl, fun id h1 h2 => by omega, fun h ha h' hh => ⟨hh, ha.wf, ha.ref, ha.mem⟩⟩
      · cases hop
    · split at hop
      · rename_i v0 cs _
        simp only [Option.some.injEq, Prod.mk.injEq] at hop
        obtain ⟨_, hop⟩ := hop
        have hget : ∀ id, (S (p + 1)).get id = if (S p).n = id then some (.cells false none cs) else (S p).get id := fun id => by
          rw [← hop]; exact Tr.get_set _ _ _ _
        have hn : (S (p + 1)).n = (S p).n + 1 := by rw [← hop]; rfl
        refine ⟨fun id hid => by rw [hget, if_neg (by omega)], fun id h1 h2 => ⟨cs, by rw [hget, if_pos (by omega)]⟩, fun h ha h' hh => ⟨hh, fun id hid => ?_, fun i ro rt b c hc => ?_, fun rt ms hms m hm => ?_⟩⟩
        · rw [hget, if_neg (by omega)]; exact ha.wf id (by omega)
        · rw [hget] at hc
          split at hc
          · cases hc
          · have := ha.ref i ro rt b c hc; omega
        · rw [hget] at hms
          split at hms
          · cases hms
          · have := ha.mem rt ms hms m hm; omega
      · cases hop
    · split at hop
      · split at hop
        · split at hop
          · simp only [Option.some.injEq, Prod.mk.injEq] at hop
            obtain ⟨_, hop⟩ := hop
            rw [← hop]
            refine ⟨fun _ _ => rfl, fun id h1 h2 => by omega, fun h ha h' hh => ⟨hh, ha.wf, ha.ref, ha.mem⟩⟩
          · cases hop
        · cases hop
      · cases hop
    · rename_i hcls
      exact absurd (by simp [isEff, hcls]) hne
end

end Go.Den

/- A region in whatever order: the invariant, and one operation of it. -/
namespace Go.Den
open Go

/-- The entry that a number is born with. -/
def birth (S : Nat → St) (n : Nat) (h0 : Hp) : Hp := fun id => match (List.range n).find? (fun p => decide (id < (S (p + 1)).n)) with
  | some p => (S (p + 1)).get id
  | none => h0 id
def hS (S : Nat → St) (n : Nat) (h0 : Hp) (c : Nat) : Hp := fun id => if id < (S c).n then (S c).get id else birth S n h0 id

section
variable {P : Program} {call : CallA} {ops : Array Oper} {bef : List Nat} {T : Nat → List AV} {S : Nat → St} {ρ0 : Rho} {h0 : Hp} {w0 : World} {d0 : List Deferred}

theorem birth_eq (hc : CallOk P call) (X : Text P call ops bef T S) {p id : Nat} (hp : p < ops.size) (h1 : (S p).n ≤ id) (h2 : id < (S (p + 1)).n) : birth S ops.size h0 id = (S (p + 1)).get id := by
  unfold birth
  have hf : (List.range ops.size).find? (fun p => decide (id < (S (p + 1)).n)) = some p := by
    rw [List.find?_range_eq_some]
    refine ⟨by simpa using h2, by simpa using hp, fun j hj => ?_⟩
    have := X.n_mono hc (p := j + 1) p (by omega) (by omega)
    simp; omega
  rw [hf]
theorem birth_far (hc : CallOk P call) (X : Text P call ops bef T S) {id : Nat} (h1 : (S ops.size).n ≤ id) : birth S ops.size h0 id = h0 id := by
  unfold birth
  have hf : (List.range ops.size).find? (fun p => decide (id < (S (p + 1)).n)) = none := by
    rw [List.find?_eq_none]
    intro p hp
    simp at hp
    have := X.n_mono hc (p := p + 1) ops.size (Nat.le_refl _) (by omega)
    simp; omega
  rw [hf]
/-- The operation that a number comes from. -/
theorem owner (hc : CallOk P call) (X : Text P call ops bef T S) {id : Nat} : ∀ q, q ≤ ops.size → (S 0).n ≤ id → id < (S q).n → ∃ p, p < q ∧ (S p).n ≤ id ∧ id < (S (p + 1)).n
  | 0, _, h1, h2 => by omega
  | q + 1, hq, h1, h2 => by
    by_cases h : id < (S q).n
    · obtain ⟨p, a, b, c⟩ := owner hc X q (by omega) h1 h
      exact ⟨p, by omega, b, c⟩
    · exact ⟨q, by omega, by omega, h2⟩
theorem owner_unique (hc : CallOk P call) (X : Text P call ops bef T S) {id p q : Nat} (hp : p < ops.size) (hq : q < ops.size) (h1 : (S p).n ≤ id) (h2 : id < (S (p + 1)).n) (h3 : (S q).n ≤ id) (h4 : id < (S (q + 1)).n) : p = q := by
  rcases Nat.lt_trichotomy p q with h | h | h
  · have := X.n_mono hc (p := p + 1) q (by omega) (by omega); omega
  · exact h
  · have := X.n_mono hc (p := q + 1) p (by omega) (by omega); omega
theorem hS_step (hc : CallOk P call) (X : Text P call ops bef T S) {p : Nat} (hp : p < ops.size) (hi : Idle P ops T p) : hS S ops.size h0 (p + 1) = hS S ops.size h0 p := by
  funext id
  have hm := X.n_step hc hp
  unfold hS
  by_cases h1 : id < (S p).n
  · rw [if_pos h1, if_pos (by omega)]; exact (X.idle_step hp hi).1 id h1
  · rw [if_neg h1]
    by_cases h2 : id < (S (p + 1)).n
    · rw [if_pos h2]; exact (birth_eq hc X hp (by omega) h2).symm
    · rw [if_neg h2]

/-- How things stand when the operations in L have been carried out. -/
structure Inv (P : Program) (call : CallA) (ops : Array Oper) (bef : List Nat) (T : Nat → List AV) (S : Nat → St) (ρ0 : Rho) (h0 : Hp) (w0 : World) (d0 : List Deferred)
    (L : Nat → Prop) (ρ : Rho) (c : Nat) (C : List AV) (a : Act) (w : World) : Prop where
  closed : ∀ (j : Nat) (o : Oper) (e : Edge), ops[j]? = some o → L j → e ∈ o.after.toList → Region.binds .any e = true → L e.on
  lt : ∀ j, L j → j < ops.size
  tr : TR ρ C a.tmps
  clen : C.length = (T 0).length
  time : ∀ t : Nat, ∃ i, i ≤ ops.size ∧ C.getD t undefA = (T i).getD t undefA ∧ (i = 0 ∨ ∃ (k : Nat) (o : Oper), i = k + 1 ∧ L k ∧ ops[k]? = some o ∧ o.dst = some t) ∧ ∀ (k : Nat) (o : Oper), L k → ops[k]? = some o → o.dst = some t → k < i
  cn : c ≤ ops.size
  cut : ∀ (e : Nat) (o : Oper), ops[e]? = some o → isEff P o.op = true → (L e ↔ e < c)
  hr : HR ρ (hS S ops.size h0 c) w
  ag : Agree (S c) (hS S ops.size h0 c)
  le : ρ0.le ρ
  dom : ∀ id, ρ id ≠ ρ0 id → ∃ p, L p ∧ (S p).n ≤ id ∧ id < (S (p + 1)).n
  unl : ∀ p, p < c → ¬ L p → ∀ id, (S p).n ≤ id → id < (S (p + 1)).n → (S c).get id = (S (p + 1)).get id
  os : w.os = w0.os
  tape : w.tape = w0.tape
  output : w.output = w0.output
  size : w0.heap.size ≤ w.heap.size
  frame : ∀ B, B < w0.heap.size → Free ρ0 h0 B → w.heap[B]? = w0.heap[B]? ∧ Free ρ (hS S ops.size h0 c) B
  idle : ∀ id, id < (S 0).n → ρ0 id = none → (∀ ms, (S 0).get id ≠ some (.fam ms)) → (S c).get id = (S 0).get id
  defers : a.defers = d0

variable {L : Nat → Prop} {ρ : Rho} {c : Nat} {C : List AV} {a : Act} {w : World}

theorem Inv.adv (hc : CallOk P call) (X : Text P call ops bef T S) (I : Inv P call ops bef T S ρ0 h0 w0 d0 L ρ c C a w) (hn : c < ops.size) (hE : ∀ o, ops[c]? = some o → isEff P o.op = false) :
    Inv P call ops bef T S ρ0 h0 w0 d0 L ρ (c + 1) C a w := by
  have hi : Idle P ops T c := fun o ho he => by rw [hE o ho] at he; cases he
  obtain ⟨i1, i2, i3⟩ := X.idle_step hn hi
  have hst := hS_step (h0 := h0) hc X hn hi
  have hm := X.n_step hc hn
  have hm0 := X.n_mono hc (p := 0) c (by omega) (by omega)
  refine { I with cn := hn, cut := fun e o ho he => ?_, hr := by rw [hst]; exact I.hr, ag := ?_, unl := fun p hp hL id h1 h2 => ?_, frame := by rw [hst]; exact I.frame, idle := fun id hid h1 h2 => ?_ }
  · have := I.cut e o ho he
    rw [this]
    constructor
    · intro h; omega
    · intro h
      rcases Nat.lt_or_ge e c with h3 | h3
      · exact h3
      · have : e = c := by omega
        subst this
        rw [hE o ho] at he; cases he
  · rw [hst]
    refine i3 _ I.ag _ (fun id hid => ?_)
    rw [← hst]
    unfold hS
    rw [if_pos hid]
  · by_cases hpc : p = c
    · subst hpc; rfl
    · have hpl := X.n_mono hc (p := p + 1) c (by omega) (by omega)
      rw [i1 id (by omega)]
      exact I.unl p (by omega) hL id h1 h2
  · rw [i1 id (by omega)]
    exact I.idle id hid h1 h2
theorem Inv.advTo (hc : CallOk P call) (X : Text P call ops bef T S) (I : Inv P call ops bef T S ρ0 h0 w0 d0 L ρ c C a w) : ∀ p, c ≤ p → p ≤ ops.size → (∀ (k : Nat) (o : Oper), c ≤ k → k < p → ops[k]? = some o → isEff P o.op = false) →
    Inv P call ops bef T S ρ0 h0 w0 d0 L ρ p C a w := by
  intro p
  induction p with
  | zero => intro h _ _; have : c = 0 := by omega
            subst this; exact I
  | succ p ih =>
    intro h hp hE
    by_cases e : c = p + 1
    · subst e; exact I
    · exact (ih (by omega) (by omega) (fun k o h1 h2 => hE k o h1 (by omega))).adv hc X (by omega) (fun o ho => hE p o (by omega) (by omega) ho)

/-- An operation whose turn has come sees what it sees in the text's order. -/
theorem Inv.sees (X : Text P call ops bef T S) (I : Inv P call ops bef T S ρ0 h0 w0 d0 L ρ c C a w) {p : Nat} {o : Oper} (ho : ops[p]? = some o) (hL : ¬ L p) (hpre : ∀ e, e ∈ o.after.toList → Region.binds .any e = true → L e.on)
    {t : Nat} (ht : t ∈ o.looksAt ops) : C.getD t undefA = (T p).getD t undefA := by
  have hp : p < ops.size := (Array.getElem?_eq_some_iff.1 ho).1
  obtain ⟨i, hi, e1, e2, e3⟩ := I.time t
  have hreach : ∀ k, k < p → ordA bef k p = true → L k := fun k hkp hk => by
    refine X.closed (fun j => L j ∨ j = p) ?_ k p o ho (.inr rfl) hk |>.resolve_right ?_
    · intro j oj e hoj hj he hb
      rcases hj with hj | rfl
      · exact .inl (I.closed j oj e hoj hj he hb)
      · rw [ho] at hoj; cases hoj
        exact .inl (hpre e he hb)
    · omega
  have hlist : ∀ k, L k → ordA bef p k = true → L p := fun k hk hord => by
    have hkn := I.lt k hk
    exact X.closed L I.closed p k ops[k] (Array.getElem?_eq_getElem hkn) hk hord
  rw [e1]
  by_cases hip : i ≤ p
  · refine (X.same p (by omega) hip (fun k ok h1 h2 hok hd => ?_)).symm
    rcases X.pair k p ok o h2 hok ho with h | ⟨h, _⟩
    · have := e3 k ok (hreach k h2 h) hok hd
      omega
    · exact (Oper.apart_spec h).1 t hd ht
  · exfalso
    rcases e2 with h | ⟨k, ok, rfl, hk, hok, hd⟩
    · omega
    · have hkp : k ≠ p := fun e => hL (e ▸ hk)
      rcases X.pair p k o ok (by omega) ho hok with h | ⟨h, _⟩
      · exact hL (hlist k hk h)
      · exact (Oper.apart_spec h).2.2 t hd ht
/-- The invariant's slots behind an operation. -/
theorem Inv.slots (X : Text P call ops bef T S) (I : Inv P call ops bef T S ρ0 h0 w0 d0 L ρ c C a w) {p : Nat} {o : Oper} (ho : ops[p]? = some o) (hL : ¬ L p) {v : AV} (hT : T (p + 1) = putA (T p) o.dst v) :
    ∀ t : Nat, ∃ i, i ≤ ops.size ∧ (putA C o.dst v).getD t undefA = (T i).getD t undefA ∧ (i = 0 ∨ ∃ (k : Nat) (o' : Oper), i = k + 1 ∧ (L k ∨ k = p) ∧ ops[k]? = some o' ∧ o'.dst = some t) ∧
      ∀ (k : Nat) (o' : Oper), (L k ∨ k = p) → ops[k]? = some o' → o'.dst = some t → k < i := by
  intro t
  have hp : p < ops.size := (Array.getElem?_eq_some_iff.1 ho).1
  by_cases hd : o.dst = some t
  · refine ⟨p + 1, hp, ?_, .inr ⟨p, o, rfl, .inr rfl, ho, hd⟩, fun k ok hk hok hdk => ?_⟩
    · rw [hT, hd]
      exact putA_same _ _ _ _ (by rw [I.clen, X.length p (by omega)])
    · rcases hk with hk | rfl
      · rcases Nat.lt_or_ge p k with h | h
        · exfalso
          rcases X.pair p k o ok h ho hok with h1 | ⟨h1, _⟩
          · exact hL (X.closed L I.closed p k ok hok hk h1)
          · exact (Oper.apart_spec h1).2.1 t hd hdk
        · omega
      · omega
  · obtain ⟨i, hi, e1, e2, e3⟩ := I.time t
    refine ⟨i, hi, by rw [putA_other _ _ _ _ hd]; exact e1, e2.imp id (fun ⟨k, ok, a1, a2, a3, a4⟩ => ⟨k, ok, a1, .inl a2, a3, a4⟩), fun k ok hk hok hdk => ?_⟩
    rcases hk with hk | rfl
    · exact e3 k ok hk hok hdk
    · rw [ho] at hok; cases hok; exact absurd hdk hd

theorem Inv.newClosed (I : Inv P call ops bef T S ρ0 h0 w0 d0 L ρ c C a w) {p : Nat} {o : Oper} (ho : ops[p]? = some o) (hpre : ∀ e, e ∈ o.after.toList → Region.binds .any e = true → L e.on) :
    ∀ (j : Nat) (o : Oper) (e : Edge), ops[j]? = some o → (L j ∨ j = p) → e ∈ o.after.toList → Region.binds .any e = true → (L e.on ∨ e.on = p) := by
  intro j oj e hoj hj he hb
  rcases hj with hj | rfl
  · exact .inl (I.closed j oj e hoj hj he hb)
  · rw [ho] at hoj; cases hoj
    exact .inl (hpre e he hb)

/-- Behind an operation that is no effect (or one that is left out): the heap's abstract side is as it was. -/
theorem Inv.quiet (X : Text P call ops bef T S) (I : Inv P call ops bef T S ρ0 h0 w0 d0 L ρ c C a w) {p : Nat} {o : Oper} (ho : ops[p]? = some o) (hL : ¬ L p) (hpre : ∀ e, e ∈ o.after.toList → Region.binds .any e = true → L e.on)
    {v : AV} {u : Value} (hT : T (p + 1) = putA (T p) o.dst v) (hE : isEff P o.op = false) (hv : Rel ρ v u) :
    Inv P call ops bef T S ρ0 h0 w0 d0 (fun k => L k ∨ k = p) ρ c (putA C o.dst v) (a.put o.dst u) w := by
  have hp : p < ops.size := (Array.getElem?_eq_some_iff.1 ho).1
  refine { I with closed := I.newClosed ho hpre, lt := fun j hj => ?_, tr := I.tr.put hv, clen := by rw [putA_length]; exact I.clen, time := I.slots X ho hL hT, cut := fun e oe hoe hee => ?_, dom := fun id hid => ?_, unl := fun q hq hLq id h1 h2 => I.unl q hq (fun h => hLq (.inl h)) id h1 h2, defers := ?_ }
  · rcases hj with hj | rfl
    · exact I.lt j hj
    · exact hp
  · rw [← I.cut e oe hoe hee]
    constructor
    · rintro (h | rfl)
      · exact h
      · rw [ho] at hoe; cases hoe; rw [hE] at hee; cases hee
    · exact .inl
  · obtain ⟨q, h1, h2⟩ := I.dom id hid
    exact ⟨q, .inl h1, h2⟩
  · rw [← I.defers]; cases o.dst <;> rfl
end

end Go.Den

/- A region in whatever order: effects, new blocks, reads; the law. -/
namespace Go.Den
open Go

section
variable {P : Program} {call : CallA} {ops : Array Oper} {bef : List Nat} {T : Nat → List AV} {S : Nat → St} {ρ0 : Rho} {h0 : Hp} {w0 : World} {d0 : List Deferred}
variable {L : Nat → Prop} {ρ : Rho} {c : Nat} {C : List AV} {a : Act} {w : World}

/-- No effect stands between what has been done and an effect whose turn has come. -/
theorem Inv.toEff (hc : CallOk P call) (X : Text P call ops bef T S) (I : Inv P call ops bef T S ρ0 h0 w0 d0 L ρ c C a w) {p : Nat} {o : Oper} (ho : ops[p]? = some o) (hL : ¬ L p) (hpre : ∀ e, e ∈ o.after.toList → Region.binds .any e = true → L e.on)
    (hE : isEff P o.op = true) : Inv P call ops bef T S ρ0 h0 w0 d0 L ρ p C a w := by
  have hp : p < ops.size := (Array.getElem?_eq_some_iff.1 ho).1
  have hcp : c ≤ p := by
    rcases Nat.lt_or_ge p c with h | h
    · exact absurd ((I.cut p o ho hE).2 h) hL
    · exact h
  refine I.advTo hc X p hcp (by omega) (fun k ok h1 h2 hok => ?_)
  cases hk : isEff P ok.op with
  | false => rfl
  | true =>
    exfalso
    rcases X.pair k p ok o h2 hok ho with h | ⟨_, h⟩
    · have hLk : L k := by
        refine X.closed (fun j => L j ∨ j = p) ?_ k p o ho (.inr rfl) h |>.resolve_right (by omega)
        intro j oj e hoj hj he hb
        rcases hj with hj | rfl
        · exact .inl (I.closed j oj e hoj hj he hb)
        · rw [ho] at hoj; cases hoj
          exact .inl (hpre e he hb)
      have := (I.cut k ok hok hk).1 hLk
      omega
    · exact h ⟨hk, hE⟩

/-- Behind an effect. -/
theorem Inv.done (hc : CallOk P call) (X : Text P call ops bef T S) {p : Nat} (I : Inv P call ops bef T S ρ0 h0 w0 d0 L ρ p C a w) {o : Oper} (ho : ops[p]? = some o) (hL : ¬ L p) (hpre : ∀ e, e ∈ o.after.toList → Region.binds .any e = true → L e.on)
    {v : AV} {u : Value} (hT : T (p + 1) = putA (T p) o.dst v) {ρ' : Rho} {w' : World} (hp : Post ρ (hS S ops.size h0 p) w (S p) ρ' (upd (S (p + 1)) (hS S ops.size h0 p)) w' (S (p + 1))) (hv : Rel ρ' v u) (hf : Fresh ρ0 h0 (S 0) (S ops.size)) :
    Inv P call ops bef T S ρ0 h0 w0 d0 (fun k => L k ∨ k = p) ρ' (p + 1) (putA C o.dst v) (a.put o.dst u) w' := by
  have hpn : p < ops.size := (Array.getElem?_eq_some_iff.1 ho).1
  have hm := X.n_step hc hpn
  have hm0 := X.n_mono hc (p := 0) p (by omega) (by omega)
  have hupd : upd (S (p + 1)) (hS S ops.size h0 p) = hS S ops.size h0 (p + 1) := by
    funext id
    unfold upd hS
    by_cases h1 : id < (S (p + 1)).n
    · rw [if_pos h1, if_pos h1]
    · rw [if_neg h1, if_neg h1, if_neg (by omega)]
  have hq := hp
  rw [hupd] at hq
  refine ⟨I.newClosed ho hpre, fun j hj => ?_, (I.tr.mono hp.ext).put hv, by rw [putA_length]; exact I.clen, I.slots X ho hL hT, hpn, fun e oe hoe hee => ?_, hq.hr, hq.agree, fun i x e => hp.ext i x (I.le i x e), fun id hid => ?_, fun q hq' hLq id h1 h2 => ?_,
    hp.os.trans I.os, hp.tape.trans I.tape, hp.output.trans I.output, Nat.le_trans I.size hp.size, fun B hB hfr => ?_, fun id hid h1 h2 => ?_, ?_⟩
  · rcases hj with hj | rfl
    · exact I.lt j hj
    · exact hpn
  · have := I.cut e oe hoe hee
    constructor
    · rintro (h | rfl)
      · have := this.1 h; omega
      · omega
    · intro h
      rcases Nat.lt_or_ge e p with h1 | h1
      · exact .inl (this.2 h1)
      · exact .inr (by omega)
  · by_cases e : ρ' id = ρ id
    · obtain ⟨q, h1, h2⟩ := I.dom id (by rw [← e]; exact hid)
      exact ⟨q, .inl h1, h2⟩
    · exact ⟨p, .inr rfl, hp.new id e⟩
  · have hqp : q < p := by
      rcases Nat.lt_or_ge q p with h | h
      · exact h
      · exact absurd (.inr (by omega)) hLq
    have hLq' : ¬ L q := fun h => hLq (.inl h)
    have hqm := X.n_mono hc (p := q + 1) p (by omega) (by omega)
    have hq0 := X.n_mono hc (p := 0) q (by omega) (by omega)
    have hqe := X.n_mono hc (p := q + 1) ops.size (Nat.le_refl _) (by omega)
    have hu := I.unl q hqp hLq' id h1 h2
    have hidle : Idle P ops T q := fun oq hoq heq => absurd ((I.cut q oq hoq heq).2 hqp) hLq'
    obtain ⟨cs, hcs⟩ := (X.idle_step (by omega) hidle).2.1 id h1 h2
    have hρid : ρ id = none := by
      have hρ0 : ρ0 id = none := hf.none id (by omega) (by omega)
      by_cases e : ρ id = ρ0 id
      · rw [e]; exact hρ0
      · exfalso
        obtain ⟨q', a1, a2, a3⟩ := I.dom id e
        have := owner_unique hc X (I.lt q' a1) (by omega) a2 a3 h1 h2
        subst this
        exact hLq' a1
    rw [← hu]
    exact hp.idle id (by omega) hρid (fun ms => by rw [hu, hcs]; simp)
  · obtain ⟨e1, f1⟩ := I.frame B hB hfr
    obtain ⟨e2, f2⟩ := hq.frame B (Nat.lt_of_lt_of_le hB I.size) f1
    exact ⟨e2.trans e1, f2⟩
  · have e1 := I.idle id hid h1 h2
    have hρid : ρ id = none := by
      by_cases e : ρ id = ρ0 id
      · rw [e]; exact h1
      · exfalso
        obtain ⟨q', a1, a2, a3⟩ := I.dom id e
        have := X.n_mono hc (p := 0) q' (by have := I.lt q' a1; omega) (by omega)
        omega
    rw [← e1]
    exact hp.idle id (by omega) hρid (fun ms => by rw [e1]; exact h2 ms)
  · rw [← I.defers]; cases o.dst <;> rfl

/-- Of an effect that is left out. -/
theorem Inv.left (hc : CallOk P call) (X : Text P call ops bef T S) {p : Nat} (I : Inv P call ops bef T S ρ0 h0 w0 d0 L ρ p C a w) {o : Oper} (ho : ops[p]? = some o) (hL : ¬ L p) (hpre : ∀ e, e ∈ o.after.toList → Region.binds .any e = true → L e.on)
    (hT : T (p + 1) = putA (T p) o.dst undefA) (hS' : S (p + 1) = S p) (hf : Fresh ρ0 h0 (S 0) (S ops.size)) :
    Inv P call ops bef T S ρ0 h0 w0 d0 (fun k => L k ∨ k = p) ρ (p + 1) (putA C o.dst undefA) (a.put o.dst undef) w := by
  refine I.done hc X ho hL hpre hT ?_ (rel_undef ρ) hf
  rw [hS', upd_self I.ag]
  exact Post.refl I.hr I.ag

/-- A new block, early or late. -/
theorem Inv.made (hc : CallOk P call) (X : Text P call ops bef T S) (I : Inv P call ops bef T S ρ0 h0 w0 d0 L ρ c C a w) {p : Nat} {o : Oper} (ho : ops[p]? = some o) (hL : ¬ L p) (hpre : ∀ e, e ∈ o.after.toList → Region.binds .any e = true → L e.on)
    {v : AV} {cs : List AV} {u : Value} {vs : List Value} {ty : TypeId} (hT : T (p + 1) = putA (T p) o.dst v) (hSp : S (p + 1) = (S p).new cs) (hE : isEff P o.op = false) (hrel : Rels ρ cs vs) (hf : Fresh ρ0 h0 (S 0) (S ops.size))
    (hv : ∀ ρ' : Rho, ρ' (S p).n = some (w.heap.size, 0, vs.length) → Rel ρ' v u) :
    ∃ ρ', Inv P call ops bef T S ρ0 h0 w0 d0 (fun k => L k ∨ k = p) ρ' c (putA C o.dst v) (a.put o.dst u) (w.alloc (.cells vs.toArray ty)) := by
  have hp : p < ops.size := (Array.getElem?_eq_some_iff.1 ho).1
  have hn1 : (S (p + 1)).n = (S p).n + 1 := by rw [hSp]; rfl
  have hget : ∀ id, (S (p + 1)).get id = if (S p).n = id then some (.cells false none cs) else (S p).get id := fun id => by rw [hSp]; exact Tr.get_set _ _ _ _
  have hm0 := X.n_mono hc (p := 0) p (by omega) (by omega)
  have hme := X.n_mono hc (p := p + 1) ops.size (Nat.le_refl _) (by omega)
  have hρ0 : ρ0 (S p).n = none := hf.none _ hm0 (by omega)
  have hρn : ρ (S p).n = none := by
    by_cases e : ρ (S p).n = ρ0 (S p).n
    · rw [e]; exact hρ0
    · exfalso
      obtain ⟨q, a1, a2, a3⟩ := I.dom _ e
      have := owner_unique hc X (I.lt q a1) hp a2 a3 (Nat.le_refl _) (by omega)
      subst this
      exact hL a1
  have hhS : hS S ops.size h0 c (S p).n = some (.cells false none cs) := by
    unfold hS
    split
    · rename_i hlt
      have hpc : p < c := by
        rcases Nat.lt_or_ge p c with h | h
        · exact h
        · have := X.n_mono hc (p := c) p (by omega) h; omega
      rw [I.unl p hpc hL _ (Nat.le_refl _) (by omega), hget, if_pos rfl]
    · rw [birth_eq hc X hp (Nat.le_refl _) (by omega), hget, if_pos rfl]
  have hA := alloc_HR I.hr (id := (S p).n) (cs := cs) (vs := vs) (rest := []) (e := ty) (fam := none) hρn hhS hrel (fun _ _ e => by cases e)
  simp only [List.append_nil, List.length_nil, Nat.add_zero] at hA
  obtain ⟨ρ', hρ'⟩ : ∃ ρ' : Rho, ρ' = fun i => if i = (S p).n then some (w.heap.size, 0, vs.length) else ρ i := ⟨_, rfl⟩
  rw [← hρ'] at hA
  have hnew : ρ' (S p).n = some (w.heap.size, 0, vs.length) := by rw [hρ']; simp
  have hold : ∀ i, i ≠ (S p).n → ρ' i = ρ i := fun i hi => by rw [hρ']; simp [hi]
  have hle : ρ.le ρ' := fun i x e => by rw [hold i (fun ei => by rw [ei, hρn] at e; cases e)]; exact e
  refine ⟨ρ', { I with closed := I.newClosed ho hpre, lt := fun j hj => ?_, tr := (I.tr.mono hle).put (hv ρ' hnew), clen := by rw [putA_length]; exact I.clen, time := I.slots X ho hL hT, cut := fun e oe hoe hee => ?_, hr := hA, le := fun i x e => hle i x (I.le i x e), dom := fun id hid => ?_, unl := fun q hq hLq id h1 h2 => I.unl q hq (fun h => hLq (.inl h)) id h1 h2, os := I.os, tape := I.tape, output := I.output, size := by simp; have := I.size; omega, frame := fun B hB hfr => ?_, defers := ?_ }⟩
  · rcases hj with hj | rfl
    · exact I.lt j hj
    · exact hp
  · rw [← I.cut e oe hoe hee]
    constructor
    · rintro (h | rfl)
      · exact h
      · rw [ho] at hoe; cases hoe; rw [hE] at hee; cases hee
    · exact .inl
  · by_cases hi : id = (S p).n
    · exact ⟨p, .inr rfl, by omega, by omega⟩
    · obtain ⟨q, h1, h2⟩ := I.dom id (by rw [← hold id hi]; exact hid)
      exact ⟨q, .inl h1, h2⟩
  · obtain ⟨e1, f1⟩ := I.frame B hB hfr
    have hBw : B < w.heap.size := Nat.lt_of_lt_of_le hB I.size
    refine ⟨(heap_alloc_old w _ _ hBw).trans e1, fun id o' r' e => ?_⟩
    by_cases hi : id = (S p).n
    · subst hi
      rw [hnew] at e
      simp only [Option.some.injEq, Prod.mk.injEq] at e
      omega
    · rw [hold id hi] at e
      exact f1 id o' r' e
  · rw [← I.defers]; cases o.dst <;> rfl

theorem sameO_eq : ∀ (x y : Option (Nat × Nat)), sameO x y = true → x = y
  | none, none, _ => rfl
  | none, some _, h => by simp [sameO] at h
  | some _, none, h => by simp [sameO] at h
  | some (a, i), some (b, j), h => by
    simp only [sameO, Bool.and_eq_true] at h
    rw [beq_true_eq h.1, beq_true_eq h.2]
theorem sameC_eq : ∀ (x y : Cap), sameC x y = true → x = y
  | .known a, .known b, h => by simp only [sameC] at h; rw [beq_true_eq h]
  | .known _, .more _ _, h => by simp [sameC] at h
  | .more _ _, .known _, h => by simp [sameC] at h
  | .more a s, .more b t, h => by
    simp only [sameC, Bool.and_eq_true] at h
    rw [beq_true_eq h.1, beq_true_eq h.2]
mutual
theorem sameV_eq : ∀ (x y : AV), sameV x y = true → x = y
  | .bool a, y, h => by cases y <;> simp [sameV] at h; rw [h]
  | .int k a, y, h => by cases y <;> simp [sameV] at h; rw [h.1, h.2]
  | .str a, y, h => by cases y <;> simp [sameV, eqBytes_eq] at h; rw [h]
  | .ptr a, y, h => by cases y <;> simp [sameV] at h; rw [sameO_eq a _ h]
  | .glob a, y, h => by
    cases y <;> simp [sameV] at h
    rw [h]
  | .sl a n c, y, h => by
    cases y <;> simp [sameV] at h
    rw [sameO_eq a _ h.1.1, h.1.2, sameC_eq c _ h.2]
  | .fn f x y, z, h => by
    cases z <;> simp [sameV] at h
    rw [h.1.1, sameVs_eq x _ h.1.2, sameVs_eq y _ h.2]
  | .nilFn, y, h => by cases y <;> simp [sameV] at h; rfl
  | .lit _, y, h => by cases y <;> simp [sameV] at h
  | .fact _ _, y, h => by cases y <;> simp [sameV] at h
  | .agg x, y, h => by cases y <;> simp [sameV] at h; rw [sameVs_eq x _ h]
  | .tup x, y, h => by cases y <;> simp [sameV] at h; rw [sameVs_eq x _ h]
theorem sameVs_eq : ∀ (x y : List AV), sameVs x y = true → x = y
  | [], [], _ => rfl
  | [], _ :: _, h => by simp [sameVs] at h
  | _ :: _, [], h => by simp [sameVs] at h
  | a :: x, b :: y, h => by
    simp only [sameVs, Bool.and_eq_true] at h
    rw [sameV_eq a b h.1, sameVs_eq x y h.2]
end
theorem sameR_eq {x y : Option (List AV)} (h : sameR x y = true) : x = y := by
  unfold sameR at h
  split at h
  · rw [sameVs_eq _ _ h]
  · cases h

/-- What is ordered before, stands before. -/
theorem Text.ord_lt (X : Text P call ops bef T S) {i j : Nat} {o : Oper} (ho : ops[j]? = some o) (h : ordA bef i j = true) : i ≤ j :=
  X.closed (fun k => k ≤ j) (fun k ok e hok hk he hb => by have := X.edges k ok e hok he hb; omega) i j o ho (Nat.le_refl _) h
theorem hS_idle (hc : CallOk P call) (X : Text P call ops bef T S) {i : Nat} : ∀ q, i ≤ q → q ≤ ops.size → (∀ k, i ≤ k → k < q → Idle P ops T k) → hS S ops.size h0 q = hS S ops.size h0 i := by
  intro q
  induction q with
  | zero => intro h _ _; have : i = 0 := by omega
            subst this; rfl
  | succ q ih =>
    intro h hq hi
    by_cases e : i = q + 1
    · subst e; rfl
    · rw [hS_step hc X (by omega) (hi q (by omega) (by omega))]
      exact ih (by omega) (by omega) (fun k h1 h2 => hi k h1 (by omega))

/-- What a read reads, whenever it is carried out. -/
theorem Inv.reads (hc : CallOk P call) (X : Text P call ops bef T S) (I : Inv P call ops bef T S ρ0 h0 w0 d0 L ρ c C a w) {p : Nat} {o : Oper} (ho : ops[p]? = some o) (hL : ¬ L p) (hpre : ∀ e, e ∈ o.after.toList → Region.binds .any e = true → L e.on)
    (hR : isRead P o.op = true) (hg : guardA ops (T p) o = true) {b off k : Nat} {mk : Made} {l : List AV} (hread : readA P (T p) o.op = some (b, off, k, mk)) (hl : (S p).read b off k = some l) :
    ∃ ro fam cs, hS S ops.size h0 c b = some (.cells ro fam cs) ∧ readL cs off k = some l := by
  have hp : p < ops.size := (Array.getElem?_eq_some_iff.1 ho).1
  have hE : isEff P o.op = false := by
    unfold isRead at hR; unfold isEff
    split at hR <;> rename_i hcl
    · rw [hcl]
    · cases hR
  obtain ⟨b', off', k', mk', hread', hst⟩ := X.stable p o ho hR hg
  rw [hread] at hread'
  simp only [Option.some.injEq, Prod.mk.injEq] at hread'
  obtain ⟨rfl, rfl, rfl, rfl⟩ := hread'
  rw [hl] at hst
  have fin : ∀ q, hS S ops.size h0 q = hS S ops.size h0 c → (S q).read b off k = some l → ∃ ro fam cs, hS S ops.size h0 c b = some (.cells ro fam cs) ∧ readL cs off k = some l := fun q hq hr => by
    obtain ⟨ro, fam, cs, hb, hrd⟩ := St.read_some hr
    have hlt := St.read_lt hr
    refine ⟨ro, fam, cs, ?_, hrd⟩
    rw [← hq]
    unfold hS
    rw [if_pos hlt]; exact hb
  have hpreL : ∀ e, e < p → ordA bef e p = true → L e := fun e hlt hord => by
    refine X.closed (fun j => L j ∨ j = p) ?_ e p o ho (.inr rfl) hord |>.resolve_right (by omega)
    intro j oj ed hoj hj he hb
    rcases hj with hj | rfl
    · exact .inl (I.closed j oj ed hoj hj he hb)
    · rw [ho] at hoj; cases hoj
      exact .inl (hpre ed he hb)
  have idleP : Idle P ops T p := fun o' ho' he => by rw [ho] at ho'; cases ho'; rw [hE] at he; cases he
  rcases Nat.lt_or_ge p c with hpc | hpc
  · -- effects behind it in the text have been carried out
    have walk : ∀ q, p ≤ q → q ≤ c → (S q).read b off k = some l := by
      intro q
      induction q with
      | zero => intro h _; have : p = 0 := by omega
                subst this; exact hl
      | succ q ih =>
        intro h hq
        by_cases e : p = q + 1
        · rw [← e]; exact hl
        · have hprev := ih (by omega) (by omega)
          have hqn : q < ops.size := by have := I.cn; omega
          by_cases hi : Idle P ops T q
          · obtain ⟨ro, fam, cs, hb, hrd⟩ := St.read_some hprev
            have hlt := St.read_lt hprev
            have hm := X.n_step hc hqn
            rw [St.read_of (by omega) (by rw [(X.idle_step hqn hi).1 b hlt]; exact hb)]
            exact hrd
          · have : ∃ oe, ops[q]? = some oe ∧ isEff P oe.op = true ∧ guardA ops (T q) oe = true := by
              refine ⟨ops[q], Array.getElem?_eq_getElem hqn, ?_⟩
              cases he : isEff P ops[q].op with
              | false => exact absurd (fun o' ho' he' => by rw [Array.getElem?_eq_getElem hqn] at ho'; cases ho'; rw [he] at he'; cases he') hi
              | true =>
                cases hgq : guardA ops (T q) ops[q] with
                | false => exact absurd (fun o' ho' he' => by rw [Array.getElem?_eq_getElem hqn] at ho'; cases ho'; exact hgq) hi
                | true => exact ⟨rfl, rfl⟩
            obtain ⟨oe, hoe, hee, hge⟩ := this
            have hqp : q ≠ p := fun e => by subst e; exact hi idleP
            have hLq : L q := (I.cut q oe hoe hee).2 (by omega)
            have h1 : ordA bef p q = false := by
              cases hh : ordA bef p q with
              | false => rfl
              | true => exact absurd (X.closed L I.closed p q oe hoe hLq hh) hL
            have h2 : ordA bef q p = false := by
              cases hh : ordA bef q p with
              | false => rfl
              | true => have := X.ord_lt ho hh; omega
            have := hst q oe hoe hee hge h1 h2
            simp only [leavesA, Bool.and_eq_true] at this
            exact sameR_eq this.2
    exact fin c rfl (walk c (by omega) (Nat.le_refl _))
  · -- effects ahead of it in the text have not
    by_cases hall : ∀ k, c ≤ k → k < p → Idle P ops T k
    · exact fin p (hS_idle hc X p hpc (by omega) hall) hl
    · have : ∃ e, c ≤ e ∧ e < p ∧ ¬ Idle P ops T e ∧ ∀ k, c ≤ k → k < e → Idle P ops T k := by
        have hex : ∃ e, c ≤ e ∧ e < p ∧ ¬ Idle P ops T e := by
          rw [Classical.not_forall] at hall
          obtain ⟨k, hk⟩ := hall
          rw [Classical.not_imp] at hk
          obtain ⟨h1, hk⟩ := hk
          rw [Classical.not_imp] at hk
          exact ⟨k, h1, hk.1, hk.2⟩
        obtain ⟨e0, he0⟩ := hex
        induction e0 using Nat.strongRecOn with
        | _ e0 ih =>
          by_cases hh : ∀ k, c ≤ k → k < e0 → Idle P ops T k
          · exact ⟨e0, he0.1, he0.2.1, he0.2.2, hh⟩
          · rw [Classical.not_forall] at hh
            obtain ⟨k, hk⟩ := hh
            rw [Classical.not_imp] at hk
            obtain ⟨h1, hk⟩ := hk
            rw [Classical.not_imp] at hk
            exact ih k hk.1 ⟨h1, by omega, hk.2⟩
      obtain ⟨e, h1, h2, h3, h4⟩ := this
      have hen : e < ops.size := by omega
      have : ∃ oe, ops[e]? = some oe ∧ isEff P oe.op = true ∧ guardA ops (T e) oe = true := by
        refine ⟨ops[e], Array.getElem?_eq_getElem hen, ?_⟩
        cases he : isEff P ops[e].op with
        | false => exact absurd (fun o' ho' he' => by rw [Array.getElem?_eq_getElem hen] at ho'; cases ho'; rw [he] at he'; cases he') h3
        | true =>
          cases hgq : guardA ops (T e) ops[e] with
          | false => exact absurd (fun o' ho' he' => by rw [Array.getElem?_eq_getElem hen] at ho'; cases ho'; exact hgq) h3
          | true => exact ⟨rfl, rfl⟩
      obtain ⟨oe, hoe, hee, hge⟩ := this
      have hLe : ¬ L e := fun h => by have := (I.cut e oe hoe hee).1 h; omega
      have q1 : ordA bef p e = false := by
        cases hh : ordA bef p e with
        | false => rfl
        | true => have := X.ord_lt hoe hh; omega
      have q2 : ordA bef e p = false := by
        cases hh : ordA bef e p with
        | false => rfl
        | true => exact absurd (hpreL e h2 hh) hLe
      have := hst e oe hoe hee hge q1 q2
      simp only [leavesA, Bool.and_eq_true] at this
      exact fin e (hS_idle hc X e h1 (by omega) h4) (sameR_eq this.1)
end

end Go.Den

/- A region in whatever order: the law. -/
namespace Go.Den
open Go

theorem countP_less {p q : Nat → Bool} (h : ∀ k, q k = true → p k = true) {a : Nat} (hp : p a = true) (hq : q a = false) : ∀ (l : List Nat), a ∈ l → l.countP q < l.countP p
  | [], ha => by cases ha
  | x :: l, ha => by
    have hle : ∀ (l : List Nat), l.countP q ≤ l.countP p := fun l => by
      induction l with
      | nil => exact Nat.le_refl _
      | cons y l ih =>
        rw [List.countP_cons, List.countP_cons]
        cases hqy : q y with
        | false => simp; omega
        | true => rw [h y hqy]; simp; omega
    rw [List.countP_cons, List.countP_cons]
    rcases List.mem_cons.1 ha with rfl | ha
    · have := hle l
      rw [hp, hq]; simp; omega
    · have := countP_less h hp hq l ha
      cases hqx : q x with
      | false => simp; omega
      | true => rw [h x hqx]; simp; omega

section
variable {P : Program} {call : CallA} {ops : Array Oper} {bef : List Nat} {T : Nat → List AV} {S : Nat → St} {ρ0 : Rho} {h0 : Hp} {w0 : World} {d0 : List Deferred}
variable {L : Nat → Prop} {ρ : Rho} {c : Nat} {C : List AV} {a : Act} {w : World}

theorem mem_looks {o : Oper} {t : Tmp} (h : .tmp t ∈ o.op.operands) : t ∈ o.looksAt ops := by
  unfold Oper.looksAt
  refine List.mem_append_left _ ?_
  rw [List.mem_filterMap]
  exact ⟨.tmp t, Array.mem_toList_iff.2 h, rfl⟩
theorem Inv.evs (X : Text P call ops bef T S) (I : Inv P call ops bef T S ρ0 h0 w0 d0 L ρ c C a w) {p : Nat} {o : Oper} (ho : ops[p]? = some o) (hL : ¬ L p) (hpre : ∀ e, e ∈ o.after.toList → Region.binds .any e = true → L e.on) :
    ∀ x, x ∈ o.op.operands → evA C x = evA (T p) x := fun x hx => by
  cases x with
  | tmp t => simp only [evA]; rw [I.sees X ho hL hpre (mem_looks hx)]
  | _ => rfl
theorem Inv.guards (X : Text P call ops bef T S) (I : Inv P call ops bef T S ρ0 h0 w0 d0 L ρ c C a w) {p : Nat} {o : Oper} (ho : ops[p]? = some o) (hL : ¬ L p) (hpre : ∀ e, e ∈ o.after.toList → Region.binds .any e = true → L e.on) :
    guardA ops C o = guardA ops (T p) o := by
  have hp : p < ops.size := (Array.getElem?_eq_some_iff.1 ho).1
  unfold guardA
  cases hgd : o.guard with
  | none => rfl
  | some q =>
    obtain ⟨j, want⟩ := q
    simp only
    cases hj : ops[j]? with
    | none => rfl
    | some g =>
      simp only
      cases hd : g.dst with
      | none => rfl
      | some d =>
        simp only
        have ht : d ∈ o.looksAt ops := by
          unfold Oper.looksAt
          refine List.mem_append_right _ ?_
          simp [hgd, hj, hd]
        have h1 := I.sees X ho hL hpre ht
        have hlen : C.length = (T p).length := by rw [I.clen, X.length p (by omega)]
        simp only [List.getD] at h1
        by_cases hlt : d < C.length
        · have hlt' : d < (T p).length := by rw [← hlen]; exact hlt
          rw [List.getElem?_eq_getElem hlt, List.getElem?_eq_getElem hlt'] at h1 ⊢
          simp only [Option.getD_some] at h1
          rw [h1]
        · have hlt' : ¬ d < (T p).length := by rw [← hlen]; exact hlt
          rw [List.getElem?_eq_none (Nat.le_of_not_lt hlt), List.getElem?_eq_none (Nat.le_of_not_lt hlt')]

/-- One operation whose turn has come. -/
theorem Inv.exec (ok : ProgOk P) (hc : CallOk P call) (X : Text P call ops bef T S) (hf : Fresh ρ0 h0 (S 0) (S ops.size)) (I : Inv P call ops bef T S ρ0 h0 w0 d0 L ρ c C a w) {p : Nat} {o : Oper} (ho : ops[p]? = some o) (hL : ¬ L p)
    (hpre : ∀ e, e ∈ o.after.toList → Region.binds .any e = true → L e.on) {K : Act → World → Prop} {Q : Exit → Act → World → Prop}
    (hK : ∀ ρ' c' C' a' w', Inv P call ops bef T S ρ0 h0 w0 d0 (fun k => L k ∨ k = p) ρ' c' C' a' w' → K a' w') : wpOp P ops Q p K a w := by
  have hp : p < ops.size := (Array.getElem?_eq_some_iff.1 ho).1
  have hg := I.guards X ho hL hpre
  have hev := I.evs X ho hL hpre
  unfold wpOp
  simp only [ho]
  rw [guard_eq I.tr ops o, hg]
  rcases step_put (X.step p o ho) with ⟨e0, e1, e2⟩ | ⟨e0, v, hop, e1⟩
  · rw [e0]
    simp only [Bool.false_eq_true, if_false]
    cases hE : isEff P o.op with
    | false => exact hK _ _ _ _ _ (I.quiet X ho hL hpre e1 hE (rel_undef ρ))
    | true => exact hK _ _ _ _ _ ((I.toEff hc X ho hL hpre hE).left hc X ho hL hpre e1 e2 hf)
  · rw [e0]
    simp only [if_true]
    refine .inl ?_
    cases hE : isEff P o.op with
    | true =>
      have I' := I.toEff hc X ho hL hpre hE
      rw [← op_congr hev] at hop
      have hfp : Fresh ρ (hS S ops.size h0 p) (S p) (S (p + 1)) := by
        have hm0 := X.n_mono hc (p := 0) p (by omega) (by omega)
        have hme := X.n_mono hc (p := p + 1) ops.size (Nat.le_refl _) (by omega)
        refine ⟨fun id h1 h2 => ?_, fun id h1 h2 ro x cs hcs => ?_⟩
        · have hρ0 : ρ0 id = none := hf.none id (by omega) (by omega)
          by_cases e : ρ id = ρ0 id
          · rw [e]; exact hρ0
          · exfalso
            obtain ⟨q, a1, a2, a3⟩ := I'.dom id e
            have := owner_unique hc X (I'.lt q a1) hp a2 a3 h1 h2
            subst this
            exact hL a1
        · have hm := X.n_step hc hp
          unfold hS at hcs
          rw [if_neg (by omega)] at hcs
          by_cases e : ρ id = ρ0 id
          · rcases Nat.lt_or_ge id (S ops.size).n with h3 | h3
            · have := hf.none id (by omega) h3
              rw [e, this] at h2; exact h2 rfl
            · rw [birth_far hc X h3] at hcs
              exact hf.far id h3 (by rw [← e]; exact h2) ro x cs hcs
          · obtain ⟨q, a1, a2, a3⟩ := I'.dom id e
            have hq := I'.lt q a1
            have hqp : p < q := by
              rcases Nat.lt_trichotomy p q with h | h | h
              · exact h
              · subst h; exact absurd a1 hL
              · have := X.n_mono hc (p := q + 1) p (by omega) (by omega); omega
            have hidle : Idle P ops T q := fun oq hoq heq => by have := (I'.cut q oq hoq heq).1 a1; omega
            obtain ⟨cs', hcs'⟩ := (X.idle_step hq hidle).2.1 id a2 a3
            rw [birth_eq hc X hq a2 a3, hcs'] at hcs
            cases hcs
      refine op_sound ok hc I'.hr I'.ag I'.tr hop hfp (fun ρ' w' u hpst hv => hK _ _ _ _ _ (I'.done hc X ho hL hpre e1 hpst hv hf))
    | false =>
      have hop' := hop
      unfold opA at hop
      split at hop
      · rename_i hcl
        split at hop
        · rename_i v0 hv
          simp only [Option.some.injEq, Prod.mk.injEq] at hop
          obtain ⟨rfl, hS'⟩ := hop
          rw [← pure_congr hev] at hv
          obtain ⟨u, h1, h2⟩ := pure_sound (P := P) w I.tr hv
          unfold Oper.wp
          rw [h1, Oper.upon_value]
          exact hK _ _ _ _ _ (I.quiet X ho hL hpre e1 hE h2)
        · cases hop
      · rename_i hcl
        split at hop
        · rename_i v0 cs hv
          simp only [Option.some.injEq, Prod.mk.injEq] at hop
          obtain ⟨rfl, hS'⟩ := hop
          rw [← alloc_congr hev] at hv
          obtain ⟨u, vs, ty, h1, h2, h3⟩ := alloc_real (P := P) w I.tr hv
          unfold Oper.wp
          rw [h1, Oper.upon_value]
          obtain ⟨ρ', I'⟩ := I.made hc X ho hL hpre (ty := ty) e1 hS'.symm hE h2 hf h3
          exact hK _ _ _ _ _ I'
        · cases hop
      · rename_i hcl
        have hR : isRead P o.op = true := by simp [isRead, hcl]
        split at hop
        · rename_i b off k mk hv
          split at hop
          · rename_i l hl
            split at hop
            · rename_i v0 hm
              simp only [Option.some.injEq, Prod.mk.injEq] at hop
              obtain ⟨rfl, hS'⟩ := hop
              obtain ⟨ro, fam, cs, hb, hrd⟩ := I.reads hc X ho hL hpre hR e0 hv hl
              rw [← read_congr hev] at hv
              obtain ⟨u, h1, h2⟩ := read_real (P := P) I.hr I.tr hv hb hrd hm
              unfold Oper.wp
              rw [h1, Oper.upon_value]
              exact hK _ _ _ _ _ (I.quiet X ho hL hpre e1 hE h2)
            · cases hop
          · cases hop
        · cases hop
      · rename_i hcl
        simp [isEff, hcl] at hE

theorem Inv.congr {L' : Nat → Prop} (I : Inv P call ops bef T S ρ0 h0 w0 d0 L ρ c C a w) (h : ∀ k, L k ↔ L' k) : Inv P call ops bef T S ρ0 h0 w0 d0 L' ρ c C a w := by
  have : L = L' := funext fun k => propext (h k)
  subst this; exact I

/-- All of them. -/
theorem any_sound (ok : ProgOk P) (hc : CallOk P call) (X : Text P call ops bef T S) (hf : Fresh ρ0 h0 (S 0) (S ops.size)) {Q : Exit → Act → World → Prop}
    (hQ : ∀ (L : Nat → Prop) ρ c C a w, (∀ k, k < ops.size → L k) → Inv P call ops bef T S ρ0 h0 w0 d0 L ρ c C a w → Q .normal a w) :
    ∀ (fuel : Nat) (listed : Array Bool) (ρ : Rho) (c : Nat) (C : List AV) (a : Act) (w : World), listed.size = ops.size → Inv P call ops bef T S ρ0 h0 w0 d0 (fun k => listed.getD k false = true) ρ c C a w →
      (List.range ops.size).countP (fun k => !listed.getD k false) ≤ fuel → wpAny P .any ops Q fuel listed a w := by
  have hdone : ∀ (listed : Array Bool), listed.size = ops.size → (∀ (j : Nat) (o : Oper) (e : Edge), ops[j]? = some o → e ∈ o.after.toList → Region.binds .any e = true → e.on < j) → Region.ready .any ops listed = [] → ∀ k, k < ops.size → listed.getD k false = true := by
    intro listed hsz hedge hr k
    induction k using Nat.strongRecOn with
    | _ k ih =>
      intro hk
      cases hl : listed.getD k false with
      | true => rfl
      | false =>
        exfalso
        have hm : k ∈ Region.ready .any ops listed := by
          unfold Region.ready
          rw [List.mem_filter]
          refine ⟨by simpa using hk, ?_⟩
          have h1 : listed.getD k true = false := by
            rw [Array.getD_eq_getD_getElem?] at hl ⊢
            rw [Array.getElem?_eq_getElem (by omega)] at hl ⊢
            simpa using hl
          have h2 : ops[k]? = some ops[k] := Array.getElem?_eq_getElem hk
          rw [h1, h2]
          simp only [Bool.not_false, Bool.true_and, Option.map_some, Option.getD_some]
          rw [Array.all_eq_true_iff_forall_mem]
          intro e he
          simp only [Bool.or_eq_true, Bool.not_eq_true']
          cases hb : Region.binds .any e with
          | false => exact .inl rfl
          | true =>
            have := hedge k ops[k] e h2 (Array.mem_toList_iff.2 he) hb
            exact .inr (ih e.on this (by omega))
        rw [hr] at hm
        cases hm
  intro fuel
  induction fuel with
  | zero =>
    intro listed ρ c C a w hsz I hcount
    have hall : ∀ k, k < ops.size → listed.getD k false = true := fun k hk => by
      have : (List.range ops.size).countP (fun k => !listed.getD k false) = 0 := by omega
      rw [List.countP_eq_zero] at this
      have := this k (by simpa using hk)
      simpa using this
    refine ⟨?_, hQ _ ρ c C a w hall I⟩
    unfold Region.ready
    rw [List.filter_eq_nil_iff]
    intro k hk
    simp at hk
    have h := hall k hk
    have h1 : listed.getD k true = true := by
      rw [Array.getD_eq_getD_getElem?] at h ⊢
      rw [Array.getElem?_eq_getElem (by omega)] at h ⊢
      simpa using h
    simp [h1]
  | succ fuel ih =>
    intro listed ρ c C a w hsz I hcount
    refine ⟨fun hr => hQ _ ρ c C a w (hdone listed hsz X.edges hr) I, fun i hi => ?_⟩
    unfold Region.ready at hi
    rw [List.mem_filter] at hi
    obtain ⟨hin, hi⟩ := hi
    simp at hin
    rw [Bool.and_eq_true] at hi
    obtain ⟨h1, h2⟩ := hi
    have hlt : i < listed.size := by omega
    have hLi : ¬ listed.getD i false = true := by
      rw [Array.getD_eq_getD_getElem?] at h1 ⊢
      rw [Array.getElem?_eq_getElem hlt] at h1 ⊢
      simpa using h1
    have ho : ops[i]? = some ops[i] := Array.getElem?_eq_getElem hin
    rw [ho] at h2
    simp only [Option.map_some, Option.getD_some] at h2
    rw [Array.all_eq_true_iff_forall_mem] at h2
    refine I.exec ok hc X hf ho hLi (fun e he hb => ?_) (fun ρ' c' C' a' w' I' => ?_)
    · have := h2 e (Array.mem_toList_iff.1 he)
      rw [hb] at this
      simpa using this
    · have hset : ∀ k, (listed.setIfInBounds i true).getD k false = true ↔ (listed.getD k false = true ∨ k = i) := fun k => by
        rw [Array.getD_eq_getD_getElem?, Array.getD_eq_getD_getElem?]
        by_cases hk : k = i
        · subst hk; simp [hlt]
        · rw [Array.getElem?_setIfInBounds_ne (fun e => hk e.symm)]
          simp [hk]
      refine ih _ ρ' c' C' a' w' (by simpa using hsz) (I'.congr (fun k => (hset k).symm)) ?_
      have hless : (List.range ops.size).countP (fun k => !(listed.setIfInBounds i true).getD k false) < (List.range ops.size).countP (fun k => !listed.getD k false) := by
        refine countP_less (fun k hk => ?_) (a := i) (by simpa using hLi) (by rw [(hset i).2 (.inr rfl)]; rfl) _ (by simpa using hin)
        simp only [Bool.not_eq_true'] at hk ⊢
        cases hh : listed.getD k false with
        | false => rfl
        | true => rw [(hset k).2 (.inl hh)] at hk; cases hk
      omega
end

end Go.Den

/- Regions, code, calls: the abstract machine is right. -/
namespace Go.Den
open Go

section
variable {P : Program} {call : CallA}

theorem trace_spec {ops : Array Oper} : ∀ (os : List Oper) (acc : List (List AV × St)) (t : List AV) (s : St) (res : List (List AV × St)), traceA P call ops os acc t s = some res →
    ∃ f : Nat → List AV × St, f 0 = (t, s) ∧ (∀ (p : Nat) (o : Oper), os[p]? = some o → stepA P call ops o (f p).1 (f p).2 = some (f (p + 1))) ∧ res.reverse = acc.reverse ++ (List.range (os.length + 1)).map f ∧ res.head? = some (f os.length)
  | [], acc, t, s, res, e => by
    simp only [traceA] at e; cases e
    refine ⟨fun _ => (t, s), rfl, fun p o h => by simp at h, by simp, by simp⟩
  | o :: os, acc, t, s, res, e => by
    simp only [traceA] at e
    split at e
    · rename_i t' s' hst
      obtain ⟨f, f0, f1, f2, f3⟩ := trace_spec os _ t' s' res e
      refine ⟨fun p => match p with | 0 => (t, s) | p + 1 => f p, rfl, fun p o' h => ?_, ?_, by simpa using f3⟩
      · cases p with
        | zero => simp at h; subst h; simp only; rw [hst, f0]
        | succ p => simp at h; exact f1 p o' h
      · rw [f2]
        simp only [List.reverse_cons, List.append_assoc, List.singleton_append, List.length_cons]
        congr 1
        rw [show List.range (os.length + 1 + 1) = 0 :: (List.range (os.length + 1)).map Nat.succ from List.range_succ_eq_map, List.map_cons, List.map_map]
        rfl
    · cases e

theorem readOk_spec {ops : Array Oper} {bef : List Nat} {i b off n : Nat} {want : Option (List AV)} : ∀ (os : List Oper) (e : Nat) (tr : List (List AV × St)), readOkA P ops bef i b off n want e os tr = true →
    ∀ (q : Nat) (o : Oper) (x y : List AV × St), os[q]? = some o → tr[q]? = some x → tr[q + 1]? = some y → isEff P o.op = true → guardA ops x.1 o = true → ordA bef i (e + q) = false → ordA bef (e + q) i = false → leavesA b off n want x.2 y.2 = true
  | [], e, tr, h, q, o, x, y, h1, _, _, _, _, _, _ => by simp at h1
  | o0 :: os, e, [], h, q, o, x, y, _, h2, _, _, _, _, _ => by simp at h2
  | o0 :: os, e, [x0], h, q, o, x, y, _, _, h3, _, _, _, _ => by simp at h3
  | o0 :: os, e, (t, s) :: (t', s') :: tr, h, q, o, x, y, h1, h2, h3, h4, h5, h6, h7 => by
    simp only [readOkA, Bool.and_eq_true] at h
    cases q with
    | zero =>
      simp at h1 h2 h3
      subst h1 h2 h3
      have := h.1
      simp only [Nat.add_zero] at h6 h7
      rw [h4, h5, h6, h7] at this
      simpa using this
    | succ q =>
      simp only [List.getElem?_cons_succ] at h1 h2 h3
      exact readOk_spec os (e + 1) ((t', s') :: tr) h.2 q o x y h1 h2 h3 h4 h5 (by rw [show e + 1 + q = e + (q + 1) by omega]; exact h6) (by rw [show e + 1 + q = e + (q + 1) by omega]; exact h7)
theorem stable_spec {ops : Array Oper} {bef : List Nat} {all : List Oper} {alltr : List (List AV × St)} : ∀ (os : List Oper) (i : Nat) (tr : List (List AV × St)), stableA P ops bef all alltr i os tr = true →
    ∀ (p : Nat) (o : Oper) (x : List AV × St), os[p]? = some o → tr[p]? = some x → isRead P o.op = true → guardA ops x.1 o = true →
      ∃ b off k mk, readA P x.1 o.op = some (b, off, k, mk) ∧ readOkA P ops bef (i + p) b off k (x.2.read b off k) 0 all alltr = true
  | [], i, tr, h, p, o, x, h1, _, _, _ => by simp at h1
  | o0 :: os, i, [], h, p, o, x, _, h2, _, _ => by simp at h2
  | o0 :: os, i, (t, s) :: tr, h, p, o, x, h1, h2, h3, h4 => by
    simp only [stableA, Bool.and_eq_true] at h
    cases p with
    | zero =>
      simp at h1 h2
      subst h1 h2
      have := h.1
      rw [h3, h4] at this
      simp only [Bool.not_true, Bool.false_or] at this
      split at this
      · rename_i b off k mk hr
        exact ⟨b, off, k, mk, hr, this⟩
      · cases this
    | succ p =>
      simp only [List.getElem?_cons_succ] at h1 h2
      have := stable_spec os (i + 1) tr h.2 p o x h1 h2 h3 h4
      rwa [show i + 1 + p = i + (p + 1) by omega] at this

/-- A sequence of operations, as a trace. -/
theorem ops_trace {ops : Array Oper} : ∀ (os : List Oper) (t : List AV) (s : St) (t' : List AV) (s' : St), opsA P call ops os t s = some (t', s') →
    ∃ f : Nat → List AV × St, f 0 = (t, s) ∧ (∀ (p : Nat) (o : Oper), os[p]? = some o → stepA P call ops o (f p).1 (f p).2 = some (f (p + 1))) ∧ f os.length = (t', s')
  | [], t, s, t', s', e => by
    simp only [opsA] at e; cases e
    exact ⟨fun _ => (t, s), rfl, fun p o h => by simp at h, rfl⟩
  | o :: os, t, s, t', s', e => by
    simp only [opsA] at e
    split at e
    · rename_i t1 s1 hst
      obtain ⟨f, f0, f1, f2⟩ := ops_trace os t1 s1 t' s' e
      refine ⟨fun p => match p with | 0 => (t, s) | p + 1 => f p, rfl, fun p o' h => ?_, by simpa using f2⟩
      cases p with
      | zero => simp at h; subst h; simp only; rw [hst, f0]
      | succ p => simp at h; exact f1 p o' h
    · cases e
theorem quiet_spec {ops : Array Oper} {bef : List Nat} (h : quietA P ops bef = true) {p e : Nat} {o oe : Oper} (ho : ops[p]? = some o) (hR : isRead P o.op = true) (he : ops[e]? = some oe) (hE : isEff P oe.op = true) : ordA bef p e = true ∨ ordA bef e p = true := by
  unfold quietA at h
  have hp : p < ops.size := (Array.getElem?_eq_some_iff.1 ho).1
  have hq : e < ops.size := (Array.getElem?_eq_some_iff.1 he).1
  have h1 := List.all_eq_true.1 h p (List.mem_range.2 hp)
  rw [ho] at h1
  simp only [hR, Bool.not_true, Bool.false_or] at h1
  have h2 := List.all_eq_true.1 h1 e (List.mem_range.2 hq)
  rw [he] at h2
  simpa [hE] using h2
theorem read_there {t : List AV} {s : St} {ops : Array Oper} {o : Oper} {x : List AV × St} (hR : isRead P o.op = true) (hg : guardA ops t o = true) (e : stepA P call ops o t s = some x) : ∃ b off k mk, readA P t o.op = some (b, off, k, mk) := by
  unfold stepA at e
  rw [hg] at e
  simp only at e
  unfold opA at e
  unfold isRead at hR
  split at hR
  · rename_i hc
    rw [hc] at e
    simp only at e
    split at e
    · rename_i v st1 hv
      split at hv
      · rename_i b off k mk hr
        exact ⟨b, off, k, mk, hr⟩
      · cases hv
    · cases e
  · cases hR

theorem bits_spec (acc : List Nat) (i : Nat) : ∀ (es : List Edge), (bitsA acc es).testBit i = true → ∃ e, e ∈ es ∧ Region.binds .any e = true ∧ (i = e.on ∨ (acc.getD e.on 0).testBit i = true)
  | [], h => by simp [bitsA] at h
  | e :: es, h => by
    simp only [bitsA] at h
    split at h
    · rename_i hb
      rw [Nat.testBit_or, Nat.testBit_or, Nat.testBit_two_pow, Bool.or_eq_true, Bool.or_eq_true] at h
      rcases h with (h | h) | h
      · obtain ⟨e', h1, h2, h3⟩ := bits_spec acc i es h
        exact ⟨e', List.mem_cons_of_mem _ h1, h2, h3⟩
      · exact ⟨e, by simp, hb, .inl (by simp at h; exact h.symm)⟩
      · exact ⟨e, by simp, hb, .inr h⟩
    · obtain ⟨e', h1, h2, h3⟩ := bits_spec acc i es h
      exact ⟨e', List.mem_cons_of_mem _ h1, h2, h3⟩
theorem bef_spec : ∀ (os : List Oper) (acc : List Nat), ∃ rest, befA acc os = acc ++ rest ∧ rest.length = os.length ∧ ∀ (p : Nat) (o : Oper), os[p]? = some o → rest[p]? = some (bitsA (acc ++ rest.take p) o.after.toList)
  | [], acc => ⟨[], by simp [befA], rfl, fun p o h => by simp at h⟩
  | o :: os, acc => by
    obtain ⟨rest, h1, h2, h3⟩ := bef_spec os (acc ++ [bitsA acc o.after.toList])
    refine ⟨bitsA acc o.after.toList :: rest, by simp [befA, h1], by simp [h2], fun p o' h => ?_⟩
    cases p with
    | zero => simp at h; subst h; simp
    | succ p =>
      simp at h
      have := h3 p o' h
      simpa using this
theorem bef_closed {ops : Array Oper} (L : Nat → Prop) (hL : ∀ (j : Nat) (o : Oper) (e : Edge), ops[j]? = some o → L j → e ∈ o.after.toList → Region.binds .any e = true → L e.on) :
    ∀ i j o, ops[j]? = some o → L j → ordA (befA [] ops.toList) i j = true → L i := by
  intro i j
  obtain ⟨rest, h1, h2, h3⟩ := bef_spec ops.toList []
  rw [h1]
  simp only [List.nil_append] at h3 ⊢
  have key : ∀ j, (∃ o, ops[j]? = some o) → L j → ∀ i, (rest.getD j 0).testBit i = true → L i := by
    intro j
    induction j using Nat.strongRecOn with
    | _ j ih =>
      rintro ⟨o, ho⟩ hj i hi
      have ho' : ops.toList[j]? = some o := by simpa using ho
      have hr := h3 j o ho'
      simp only [List.getD, hr, Option.getD_some] at hi
      obtain ⟨e, he1, he2, he3⟩ := bits_spec _ i _ hi
      have hLe := hL j o e ho hj he1 he2
      rcases he3 with rfl | he3
      · exact hLe
      · have hlt : e.on < j := by
          rcases Nat.lt_or_ge e.on j with h | h
          · exact h
          · rw [List.getD, List.getElem?_eq_none (by simp; omega)] at he3
            simp at he3
        refine ih e.on hlt ?_ hLe i ?_
        · have hj' : j < ops.size := (Array.getElem?_eq_some_iff.1 ho).1
          exact ⟨ops[e.on]'(by omega), Array.getElem?_eq_getElem (by omega)⟩
        · rw [List.getD, List.getElem?_take, if_pos hlt] at he3
          exact he3
  intro o ho hj hi
  exact key j ⟨o, ho⟩ hj i hi

theorem drawOk_spec {ops : Array Oper} (h : drawOkA P ops = true) :
    (∀ (i j : Nat) (x y : Oper), i < j → ops[i]? = some x → ops[j]? = some y → ordA (befA [] ops.toList) i j = true ∨ (x.apart ops y = true ∧ ¬ (isEff P x.op = true ∧ isEff P y.op = true))) ∧
    (∀ (j : Nat) (o : Oper) (e : Edge), ops[j]? = some o → e ∈ o.after.toList → Region.binds .any e = true → e.on < j) := by
  unfold drawOkA at h
  simp only [List.all_eq_true, List.mem_range, Bool.and_eq_true] at h
  refine ⟨fun i j x y hij hx hy => ?_, fun j o e ho he hb => ?_⟩
  · have hj : j < ops.size := (Array.getElem?_eq_some_iff.1 hy).1
    have := (h j hj).2 i hij
    unfold pairOk at this
    rw [hx, hy] at this
    simp only [Bool.or_eq_true, Bool.and_eq_true, Bool.not_eq_true'] at this
    refine this.imp id (fun ⟨a, b⟩ => ⟨a, fun ⟨c, d⟩ => ?_⟩)
    rw [c, d] at b; cases b
  · have hj : j < ops.size := (Array.getElem?_eq_some_iff.1 ho).1
    have := (h j hj).1
    unfold edgesOk at this
    rw [ho] at this
    simp only at this
    rw [Array.all_eq_true_iff_forall_mem] at this
    have := this e (Array.mem_toList_iff.1 he)
    rw [hb] at this
    simpa [Nat.blt_eq] using this

variable {ρ : Rho} {h : Hp} {w : World} {st : St} {tmps : List AV} {a : Act}

theorem region_n (hc : CallOk P call) {ops : Array Oper} {draw : Bool} {tmps' : List AV} {st' : St} (e : regionA P call ops draw tmps st = some (tmps', st')) : st.n ≤ st'.n := by
  unfold regionA at e
  split at e
  · exact ops_n hc _ _ _ _ _ e
  · split at e
    · rename_i last tr htr
      split at e
      · cases e
        obtain ⟨f, f0, f1, f2, f3⟩ := trace_spec _ _ _ _ _ htr
        simp only [List.head?_cons, Option.some.injEq] at f3
        have : ∀ q, q ≤ ops.toList.length → st.n ≤ (f q).2.n := by
          intro q
          induction q with
          | zero => intro _; rw [f0]; exact Nat.le_refl _
          | succ q ih =>
            intro hq
            have e1 := f1 q ops.toList[q] (List.getElem?_eq_getElem (by omega))
            exact Nat.le_trans (ih (by omega)) (step_n hc e1)
        have := this _ (Nat.le_refl _)
        rw [← f3] at this
        exact this
      · cases e
    · cases e

theorem region_any (ok : ProgOk P) (hc : CallOk P call) {id : Nat} {ops : Array Oper} {tmps' : List AV} {st' : St} (f : Nat → List AV × St) (f0 : f 0 = (tmps, st)) (f3 : (tmps', st') = f ops.size)
    (X : Text P call ops (befA [] ops.toList) (fun p => (f p).1) (fun p => (f p).2))
    (hr : HR ρ h w) (ha : Agree st h) (htr : TR ρ tmps a.tmps) (hf : Fresh ρ h st st') {Q : Exit → Act → World → Prop}
    (hk : ∀ ρ' w' a', Post ρ h w st ρ' (upd st' h) w' st' → TR ρ' tmps' a'.tmps → a'.defers = a.defers → Q .normal a' w') : (Code.region id ops true).wp P Q a w := by
  have hS0 : (f 0).2 = st := by rw [f0]
  have hT0 : (f 0).1 = tmps := by rw [f0]
  have hfin : f ops.size = (tmps', st') := f3.symm
  have hSn : (f ops.size).2 = st' := by rw [hfin]
  have hf' : Fresh ρ h ((fun p => (f p).2) 0) ((fun p => (f p).2) ops.size) := by simp only [hS0, hSn]; exact hf
  -- where the heap stands at the beginning
  have hbeg : ∀ i, ρ i ≠ none → hS (fun p => (f p).2) ops.size h 0 i = h i := fun i hi => by
    unfold hS
    simp only [hS0]
    split
    · rename_i hlt; exact (ha.eq i hlt).symm
    · rename_i hlt
      rcases Nat.lt_or_ge i st'.n with h3 | h3
      · exact absurd (hf.none i (by omega) h3) hi
      · exact birth_far hc X (by simp only [hSn]; exact h3)
  have hHR0 : HR ρ (hS (fun p => (f p).2) ops.size h 0) w := by
    refine hr.congr hbeg (fun i ro rt b cs hi hcs => ?_)
    have hin : i < st.n := by
      rcases Nat.lt_or_ge i st.n with h1 | h1
      · exact h1
      · rcases Nat.lt_or_ge i st'.n with h2 | h2
        · exact absurd (hf.none i h1 h2) hi
        · exact absurd hcs (hf.far i h2 hi ro (rt, b) cs)
    rw [ha.eq i hin] at hcs
    have hrt := ha.ref i ro rt b cs hcs
    unfold hS
    simp only [hS0]
    rw [if_pos hrt, ha.eq rt hrt]
  refine wp_region_any ok.orders ?_
  refine any_sound (ρ0 := ρ) (h0 := h) (w0 := w) (d0 := a.defers) ok hc X hf' ?_ ops.size (Array.replicate ops.size false) ρ 0 tmps a { w with drawn := w.drawn + 1 } (by simp) ?_ ?_
  · -- the end
    intro L ρ' c C a' w' hall I
    have hE : ∀ (k : Nat) (o : Oper), c ≤ k → k < ops.size → ops[k]? = some o → isEff P o.op = false := fun k o h1 h2 ho => by
      cases hh : isEff P o.op with
      | false => rfl
      | true => have := (I.cut k o ho hh).1 (hall k h2); omega
    have I' := I.advTo hc X ops.size I.cn (Nat.le_refl _) hE
    have hSend : hS (fun p => (f p).2) ops.size h ops.size = upd st' h := by
      funext i
      unfold hS upd
      simp only [hSn]
      split
      · rfl
      · rename_i hlt
        exact birth_far hc X (by simp only [hSn]; omega)
    have hn0 : ∀ q, q ≤ ops.size → st.n ≤ (f q).2.n := fun q hq => by have := X.n_mono hc (p := 0) q hq (by omega); simpa only [hS0] using this
    have hne : ∀ q, q ≤ ops.size → (f q).2.n ≤ st'.n := fun q hq => by have := X.n_mono hc (p := q) ops.size (Nat.le_refl _) hq; simpa only [hSn] using this
    refine hk ρ' w' a' ⟨I'.le, fun i hi => ?_, rfl, ?_, ?_, by have := hn0 ops.size (Nat.le_refl _); rw [hSn] at this; exact this, I'.os, I'.tape, I'.output, I'.size, fun B hB hfr => ?_, fun i hi h1 h2 => ?_⟩ ⟨?_, fun t => ?_⟩ I'.defers
    · obtain ⟨q, h1, h2, h3⟩ := I'.dom i hi
      have hq := I'.lt q h1
      have := hn0 q (by omega)
      have := hne (q + 1) (by omega)
      have h2' : (f q).2.n ≤ i := h2
      have h3' : i < (f (q + 1)).2.n := h3
      omega
    · rw [← hSend]; exact I'.hr
    · have := I'.ag
      rw [hSend] at this
      simpa only [hSn] using this
    · have := I'.frame B hB hfr
      rw [hSend] at this
      exact this
    · have := I'.idle i (by simp only [hS0]; exact hi) h1 (by simp only [hS0]; exact h2)
      simpa only [hS0, hSn] using this
    · have h1 := X.length ops.size (Nat.le_refl _)
      simp only [hfin, hT0] at h1
      have h2 := I'.tr.1
      have h3 := I'.clen
      simp only [hT0] at h3
      omega
    · obtain ⟨i, hi, e1, e2, e3⟩ := I'.time t
      have h1 := X.same (t := t) (i := i) ops.size (Nat.le_refl _) hi (fun k o q1 q2 ho hd' => by have := e3 k o (hall k q2) ho hd'; omega)
      simp only [hfin] at h1
      have h2 := I'.tr.2 t
      have e1' : C.getD t undefA = (f i).1.getD t undefA := e1
      rw [e1', ← h1] at h2
      exact h2
  · -- the beginning
    have hno : ∀ k, (Array.replicate ops.size false).getD k false = false := fun k => by
      rw [Array.getD_eq_getD_getElem?, Array.getElem?_replicate]
      split <;> rfl
    refine ⟨fun j o e _ hj => (by rw [hno] at hj; cases hj), fun j hj => (by rw [hno] at hj; cases hj), htr, by simp only [hT0], fun t => ⟨0, Nat.zero_le _, by simp only [hT0], .inl rfl, fun k o hk => (by rw [hno] at hk; cases hk)⟩, Nat.zero_le _, fun e o _ _ => ?_, hHR0.drew _, ?_, fun _ _ e => e, fun i hi => absurd rfl hi, fun p hp => by omega, rfl, rfl, rfl, Nat.le_refl _, fun B hB hfr => ⟨rfl, fun i o r hi => ?_⟩, fun i _ _ _ => rfl, rfl⟩
    · rw [hno]
      constructor
      · intro hh; cases hh
      · intro hh; omega
    · simp only [hS0]
      exact ⟨fun i hi => by unfold hS; simp only [hS0]; rw [if_pos hi], ha.wf, ha.ref, ha.mem⟩
    · obtain ⟨fm, cs, hcs⟩ := hfr i o r hi
      exact ⟨fm, cs, by rw [hbeg i (by rw [hi]; simp)]; exact hcs⟩
  · exact Nat.le_trans List.countP_le_length (by simp)

theorem region_sound (ok : ProgOk P) (hc : CallOk P call) {id : Nat} {ops : Array Oper} {draw : Bool} (hd : draw = true → drawOkA P ops = true) {tmps' : List AV} {st' : St} (e : regionA P call ops draw tmps st = some (tmps', st'))
    (hr : HR ρ h w) (ha : Agree st h) (htr : TR ρ tmps a.tmps) (hf : Fresh ρ h st st') {Q : Exit → Act → World → Prop}
    (hk : ∀ ρ' w' a', Post ρ h w st ρ' (upd st' h) w' st' → TR ρ' tmps' a'.tmps → a'.defers = a.defers → Q .normal a' w') : (Code.region id ops draw).wp P Q a w := by
  unfold regionA at e
  have hto : ∀ (p : Nat) (o : Oper), ops[p]? = some o → ops.toList[p]? = some o := fun p o ho => by simpa using ho
  have hlen : ops.toList.length = ops.size := by simp
  split at e
  · rename_i hdr
    cases draw with
    | false =>
      refine wp_region_list ?_
      exact ops_sound ok hc ops.toList ρ h w st tmps a tmps' st' e hr ha htr hf hk
    | true =>
      have hq : quietA P ops (befA [] ops.toList) = true := by simpa [drawsA] using hdr
      obtain ⟨f, f0, f1, f3⟩ := ops_trace _ _ _ _ _ e
      rw [hlen] at f3
      obtain ⟨hpair, hedge⟩ := drawOk_spec (hd rfl)
      refine region_any ok hc f f0 f3.symm ⟨fun p o ho => f1 p o (hto p o ho), fun p o ho hR hg => ?_, hpair, hedge, fun L hL => bef_closed L hL⟩ hr ha htr hf hk
      obtain ⟨b, off, k, mk, h1⟩ := read_there hR hg (f1 p o (hto p o ho))
      refine ⟨b, off, k, mk, h1, fun e oe hoe hee hge q1 q2 => ?_⟩
      rcases quiet_spec hq ho hR hoe hee with h2 | h2
      · rw [h2] at q1; cases q1
      · rw [h2] at q2; cases q2
  · rename_i hdr
    obtain rfl : draw = true := by cases draw <;> simp [drawsA] at hdr ⊢
    split at e
    · rename_i last tr htrace
      split at e
      · rename_i hstable
        cases e
        obtain ⟨f, f0, f1, f2, f3⟩ := trace_spec _ _ _ _ _ htrace
        simp only [List.head?_cons, Option.some.injEq] at f3
        simp only [List.reverse_nil, List.nil_append] at f2
        rw [f2] at hstable
        rw [hlen] at f3 hstable
        obtain ⟨hpair, hedge⟩ := drawOk_spec (hd rfl)
        have hfget : ∀ p, p ≤ ops.size → ((List.range (ops.size + 1)).map f)[p]? = some (f p) := fun p hp => by simp [show p < ops.size + 1 by omega]
        refine region_any ok hc f f0 f3 ⟨fun p o ho => f1 p o (hto p o ho), fun p o ho hR hg => ?_, hpair, hedge, fun L hL => bef_closed L hL⟩ hr ha htr hf hk
        have hp : p < ops.size := (Array.getElem?_eq_some_iff.1 ho).1
        obtain ⟨b, off, k, mk, h1, h2⟩ := stable_spec _ 0 _ hstable p o (f p) (hto p o ho) (hfget p (by omega)) hR hg
        refine ⟨b, off, k, mk, h1, fun e oe hoe hee hge q1 q2 => ?_⟩
        have he : e < ops.size := (Array.getElem?_eq_some_iff.1 hoe).1
        rw [Nat.zero_add] at h2
        exact readOk_spec _ 0 _ h2 e oe (f e) (f (e + 1)) (hto e oe hoe) (hfget e (by omega)) (hfget (e + 1) (by omega)) hee hge (by rw [Nat.zero_add]; exact q1) (by rw [Nat.zero_add]; exact q2)
      · cases e
    · cases e
end

end Go.Den
