/- An operation of any kind, on the model's side. -/
import Derived.Test.YtekedhfmdpbplaaDenK
set_option linter.unusedSimpArgs false
set_option linter.unusedVariables false
namespace Go.Den
open Go

/-- What is asked of the program, once and for all. -/
structure ProgOk (P : Program) : Prop where
  orders : P.follows .mixedOrders = true
  names : ∀ (g : Nat) (fn : Func), P.funcs[g]? = some fn → fn.body ≠ none → (fn.name == "runtime.NumGoroutine") = false
  draws : ∀ (g : Nat) (fn : Func) (c : Code), P.funcs[g]? = some fn → fn.body = some c → drawsOkA P c = true
  ext : ∀ (g : Nat) (fn : Func) (ρ : Rho) (args : List AV) (vargs : List Value) (v : AV), P.funcs[g]? = some fn → fn.body = none → externA fn.name args = some v → Rels ρ args vargs →
    ∀ w, ∃ u, (callFunc g vargs.toArray).run P w = .ok (.value u) w ∧ Rel ρ v u

def Answers (P : Program) (ρ : Rho) (h : Hp) (w : World) (st : St) (v : AV) (st' : St) : Ending → World → Prop :=
  fun e w' => ∃ u ρ', e = .returned u ∧ Post ρ h w st ρ' (upd st' h) w' st' ∧ Rel ρ' v u
structure CallOk (P : Program) (call : CallA) : Prop where
  mono : ∀ g args st v st', call g args st = some (v, st') → st.n ≤ st'.n
  calls : ∀ g args st v st', call g args st = some (v, st') → ∀ (ρ : Rho) (h : Hp) (w : World) (vargs : List Value), HR ρ h w → Agree st h → Fresh ρ h st st' → Rels ρ args vargs →
    Calls P g vargs.toArray w (Answers P ρ h w st v st')

section
variable {P : Program} {call : CallA} {ρ : Rho} {h : Hp} {w : World} {st : St} {tmps : List AV} {a : Act}

/- ### reads -/
theorem made_bytes : ∀ (l : List AV) (acc : List UInt8) (v : AV), madeB l acc = some v → ∃ ns : List Int, l = ns.map (AV.int .u8) ∧ v = .str (acc.reverse ++ ns.map fun n => UInt8.ofNat n.toNat)
  | [], acc, v, e => by simp only [madeB] at e; cases e; exact ⟨[], rfl, by simp⟩
  | x :: r, acc, v, e => by
    cases x with
    | int k n =>
      cases k <;> simp only [madeB] at e <;> first | cases e | skip
      obtain ⟨ns, h1, h2⟩ := made_bytes r _ v e
      exact ⟨n :: ns, by simp [h1], by simp [h2]⟩
    | _ => simp only [madeB] at e; cases e
theorem rels_ints {ns : List Int} {vs : List Value} (h : Rels ρ (ns.map (AV.int .u8)) vs) : vs = ns.map (Value.int .u8) := by
  induction ns generalizing vs with
  | nil => simpa [Rels] using h
  | cons n ns ih =>
    simp only [List.map_cons, Rels, Rel] at h
    obtain ⟨v, vs', rfl, rfl, h2⟩ := h
    rw [ih h2]; rfl
theorem foldl_push (ns : List Int) : ∀ (b : ByteArray), ns.foldl (fun r n => r.push (UInt8.ofNat n.toNat)) b = ⟨(b.data.toList ++ ns.map fun n => UInt8.ofNat n.toNat).toArray⟩ := by
  induction ns with
  | nil => intro b; simp
  | cons n ns ih =>
    intro b
    rw [List.foldl_cons, ih]
    simp [ByteArray.push]

theorem read_real (hr : HR ρ h w) (htr : TR ρ tmps a.tmps) {o : Oper} {b off n : Nat} {mk : Made} {ro : Bool} {fam : Option (Nat × Nat)} {cs l : List AV} {v : AV} (e : readA P tmps o.op = some (b, off, n, mk))
    (hb : h b = some (.cells ro fam cs)) (hl : readL cs off n = some l) (hm : madeA mk l = some v) : ∃ u, (execOp a.eval o).run P w = .ok (.value u) w ∧ Rel ρ v u := by
  obtain ⟨dst, op, type, pos, after, guard⟩ := o
  simp only at e
  unfold readA at e
  split at e
  · rename_i t x
    split at e
    · rename_i b' off' hx
      have hrel := ev_sound htr hx
      simp only [Rel] at hrel
      obtain ⟨B, o, r, hρ, hxv⟩ := hrel
      split at e
      · rename_i k hg hs
        cases e
        obtain ⟨vs, h1, h2, h3⟩ := read_sound hr hb hρ hl
        simp only [madeA] at hm; cases hm
        refine ⟨.agg vs.toArray, ?_, by simp only [Rel]; exact ⟨vs, rfl, h1⟩⟩
        simp [execOp, Instr.loadAt, hxv, Instr.sureAddr, loadVar, run_isAggA hg, run_sizeA hs, h3]
      · rename_i k hg hs
        cases e
        have H := hr.cell _ B o r ro fam cs hρ hb
        obtain ⟨hle, rfl⟩ := readL_some hl
        obtain ⟨vs, h1, h2⟩ := H.vals
        have hlen := h1.length
        obtain ⟨y, hy⟩ : ∃ y, cs[off]? = some y := ⟨cs[off]'(by omega), List.getElem?_eq_getElem (by omega)⟩
        have htake : (cs.drop off).take 1 = [y] := by
          rw [List.drop_eq_getElem_cons (show off < cs.length by omega)]
          simp only [List.take_succ_cons, List.take_zero]
          rw [List.getElem?_eq_getElem (by omega)] at hy
          cases hy; rfl
        rw [htake] at hm
        simp only [madeA] at hm; cases hm
        obtain ⟨u, hu, hrel⟩ := h1.get off v hy
        refine ⟨u, ?_, hrel⟩
        have hc := h2 off u hu
        simp [execOp, Instr.loadAt, hxv, Instr.sureAddr, loadVar, run_isAggA hg, hc]
      · cases e
    · cases e
  · rename_i src dst' x
    split at e
    · rename_i e0 hs hd
      split at e
      · rename_i b' off' len cap he hx
        cases e
        have hrel := ev_sound htr hx
        obtain ⟨B, o, r, c, hρ, hu⟩ := hrel.sl_addr
        obtain ⟨vs, h1, h2, h3⟩ := read_sound hr hb hρ hl
        simp only [madeA] at hm
        obtain ⟨ns, e1, e2⟩ := made_bytes l [] v hm
        subst e1 e2
        have e3 := rels_ints h1
        subst e3
        refine ⟨.string ⟨(ns.map fun n => UInt8.ofNat n.toNat).toArray⟩, ?_, by simp [Rel]⟩
        have hconv : ∀ (bs : Option Addr) (n' c' : Nat), a.eval x = .slice bs n' c' → (Conv.bytesToString (.slice bs n' c')).run P w = .ok (.string ⟨(ns.map fun n => UInt8.ofNat n.toNat).toArray⟩) w →
            (execOp a.eval { dst := dst, op := .convert src dst' x, type := type, pos := pos, after := after, guard := guard }).run P w = .ok (.value (.string ⟨(ns.map fun n => UInt8.ofNat n.toNat).toArray⟩)) w := by
          intro bs n' c' hx' hrun
          simp only [execOp, Sem.run_bind, hx', run_convert_bytes_string w src dst' e0 bs n' c' hs he hd, hrun, Result.andThen_ok, Sem.run_pure]
        rcases hu with hu | ⟨h0, hc0, y, hu⟩
        · refine hconv _ _ _ hu ?_
          rw [run_bytesToString w _ _ _ ns (h3 P), foldl_push]
          simp
        · refine hconv _ _ _ hu ?_
          subst h0
          have : ns = [] := by simpa using h2
          subst this
          rw [run_bytesToString w _ _ _ [] (by simp [loadCells, loadCellsFrom])]
          rfl
      · cases e
    · cases e
  · cases e

/- ### effects -/
theorem write_n {b off : Nat} {as : List AV} {st' : St} (e : st.write b off as = some st') : st'.n = st.n := by
  unfold St.write at e
  split at e
  · split at e
    · cases e
    · split at e
      · cases e; rfl
      · split at e
        · generalize poison _ _ _ _ _ = q at e
          obtain ⟨x, y⟩ := q
          cases e; rfl
        · cases e
  · cases e
theorem append_n {e0 : TypeId} {s x v : AV} {st' : St} (e : appendA P st e0 s x = some (v, st')) : st.n ≤ st'.n := by
  unfold appendA at e
  split at e
  · split at e
    · cases e
    · split at e
      · cases e
      · split at e
        · cases e
        · split at e
          · split at e
            · cases e; exact Nat.le_refl _
            · split at e
              · cases e; exact Nat.le_refl _
              · split at e
                · rename_i hw; cases e; rw [write_n hw]; exact Nat.le_refl _
                · cases e
          · split at e
            · split at e
              · cases e
              · split at e
                · cases e
                · split at e
                  · cases e; simp [St.newOpen]
                  · cases e
            · split at e
              · split at e
                · split at e
                  · split at e
                    · cases e
                    · generalize poison _ _ _ _ _ = q at e
                      obtain ⟨y, z⟩ := q
                      cases e; simp
                  · cases e
                · cases e
              · cases e
  · cases e
theorem copy_n {e0 : TypeId} {d s v : AV} {st' : St} (e : copyA P st e0 d s = some (v, st')) : st.n ≤ st'.n := by
  unfold copyA at e
  split at e
  · split at e
    · cases e
    · split at e
      · cases e; exact Nat.le_refl _
      · split at e
        · cases e; exact Nat.le_refl _
        · split at e
          · rename_i hw; cases e; rw [write_n hw]; exact Nat.le_refl _
          · cases e
  · cases e
theorem clear_n {e0 : TypeId} {d v : AV} {st' : St} (e : clearA P st e0 d = some (v, st')) : st.n ≤ st'.n := by
  unfold clearA at e
  split at e
  · cases e; exact Nat.le_refl _
  · split at e
    · split at e
      · rename_i hw; cases e; rw [write_n hw]; exact Nat.le_refl _
      · cases e
    · cases e
  · cases e
theorem eff_n (hc : CallOk P call) {o : Op} {v : AV} {st' : St} (e : effA P call tmps st o = some (v, st')) : st.n ≤ st'.n := by
  unfold effA at e
  split at e
  · split at e
    · split at e
      · split at e
        · rename_i hw; cases e; rw [write_n hw]; exact Nat.le_refl _
        · cases e
      · cases e
    · cases e
  · split at e
    · exact append_n e
    · exact append_n e
    · cases e
  · split at e
    · exact copy_n e
    · cases e
  · split at e
    · exact clear_n e
    · cases e
  · split at e
    · split at e
      · split at e
        · exact hc.mono _ _ _ _ _ e
        · split at e
          · cases e; exact Nat.le_refl _
          · cases e
      · cases e
    · cases e
  · cases e
theorem op_n (hc : CallOk P call) {o : Op} {v : AV} {st' : St} (e : opA P call tmps st o = some (v, st')) : st.n ≤ st'.n := by
  unfold opA at e
  split at e
  · split at e
    · cases e; exact Nat.le_refl _
    · cases e
  · split at e
    · cases e; simp [St.new]
    · cases e
  · split at e
    · split at e
      · split at e
        · cases e; exact Nat.le_refl _
        · cases e
      · cases e
    · cases e
  · exact eff_n hc e

theorem eff_sound (ok : ProgOk P) (hc : CallOk P call) (hr : HR ρ h w) (ha : Agree st h) (htr : TR ρ tmps a.tmps) {o : Oper} {v : AV} {st' : St} (e : effA P call tmps st o.op = some (v, st')) (hf : Fresh ρ h st st')
    {next : Act → World → Prop} {Q : Exit → Act → World → Prop} (hk : ∀ ρ' w' u, Post ρ h w st ρ' (upd st' h) w' st' → Rel ρ' v u → next (a.put o.dst u) w') : o.wp P a w next Q := by
  obtain ⟨dst, op, type, pos, after, guard⟩ := o
  simp only at e hk
  unfold Oper.wp
  unfold effA at e
  split at e
  · rename_i t p x
    split at e
    · rename_i b off v0 n hp hx hn
      split at e
      · rename_i hl
        split at e
        · rename_i st1 hw
          cases e
          obtain ⟨w', h1, h2⟩ := store_sound (P := P) hr ha hn hl hw (ev_sound htr hp) (ev_sound htr hx)
          have : (execOp a.eval { dst := dst, op := .store t p x, type := type, pos := pos, after := after, guard := guard }).run P w = .ok .skip w' := by
            simp [execOp, h1]
          rw [this, Oper.upon_skip]
          exact hk _ _ _ h2 (rel_undef _)
        · cases e
      · cases e
    · cases e
  · rename_i s x t u0
    have key : ∀ (e0 : TypeId) (d : TypeDesc) (sv xv : AV), P.underlying t = some (.slice e0) → P.underlying u0 = some d → (∀ k, d ≠ .int k) → evA tmps s = some sv → evA tmps x = some xv → appendA P st e0 sv xv = some (v, st') →
        Oper.upon P { dst := dst, op := .call { callee := .builtin .append, args := #[s, x], argTypes := #[t, u0] }, type := type, pos := pos, after := after, guard := guard } a next Q
          ((execOp a.eval { dst := dst, op := .call { callee := .builtin .append, args := #[s, x], argTypes := #[t, u0] }, type := type, pos := pos, after := after, guard := guard }).run P w) := by
      intro e0 d sv xv ht hu hd hs hx he
      obtain ⟨r, w', ρ', h1, h2, h3⟩ := append_sound (P := P) (ty := type) hr ha ht hu hd he (ev_sound htr hs) (ev_sound htr hx) hf
      have : (execOp a.eval { dst := dst, op := .call { callee := .builtin .append, args := #[s, x], argTypes := #[t, u0] }, type := type, pos := pos, after := after, guard := guard }).run P w = .ok (.value r) w' := by
        simp [execOp, resolve, invoke, builtin, h1]
      rw [this, Oper.upon_value]
      exact hk _ _ _ h2 h3
    split at e
    · rename_i e0 e1 sv xv ht hu hs hx
      exact key e0 _ sv xv ht hu (fun k => by simp) hs hx e
    · rename_i e0 sv xv ht hu hs hx
      exact key e0 _ sv xv ht hu (fun k => by simp) hs hx e
    · cases e
  · rename_i d s t u0
    split at e
    · rename_i e0 dv sv ht hd hs
      obtain ⟨r, w', h1, h2, h3⟩ := copy_sound (P := P) (u0 := u0) (ty := type) hr ha ht e (ev_sound htr hd) (ev_sound htr hs)
      have : (execOp a.eval { dst := dst, op := .call { callee := .builtin .copy, args := #[d, s], argTypes := #[t, u0] }, type := type, pos := pos, after := after, guard := guard }).run P w = .ok (.value r) w' := by
        simp [execOp, resolve, invoke, builtin, h1]
      rw [this, Oper.upon_value]
      exact hk _ _ _ h2 h3
    · cases e
  · rename_i x t
    split at e
    · rename_i e0 xv ht hx
      obtain ⟨r, w', h1, h2, h3⟩ := clear_sound (P := P) (ty := type) hr ha ht e (ev_sound htr hx)
      have : (execOp a.eval { dst := dst, op := .call { callee := .builtin .clear, args := #[x], argTypes := #[t] }, type := type, pos := pos, after := after, guard := guard }).run P w = .ok (.value r) w' := by
        simp [execOp, resolve, invoke, builtin, h1]
      rw [this, Oper.upon_value]
      exact hk _ _ _ h2 h3
    · cases e
  · rename_i f args ats
    split at e
    · rename_i g first caps l hfv hl
      have hfr := ev_sound htr hfv
      simp only [Rel] at hfr
      obtain ⟨fx, fy, hfe, hr1, hr2⟩ := hfr
      have hargs := evs_sound htr hl
      have hrels : Rels ρ (first ++ l ++ caps) (fx ++ args.toList.map a.eval ++ fy) := (hr1.append hargs).append hr2
      have hres : (execOp a.eval { dst := dst, op := .call { callee := .value f, args := args, argTypes := ats }, type := type, pos := pos, after := after, guard := guard }).run P w =
          (callFunc g (fx ++ args.toList.map a.eval ++ fy).toArray).run P w := by
        have e1 : args.map a.eval = (args.toList.map a.eval).toArray := by apply Array.ext'; simp
        simp only [execOp, resolve, hfe, e1, Deferred.ofValue, Sem.run_bind, Sem.run_pure, Result.andThen_ok, invoke]
        simp
      rw [hres]
      split at e
      · rename_i fn hfn
        split at e
        · rename_i c hbody
          have hname := ok.names g fn hfn (by rw [hbody]; simp)
          have hcf : (callFunc g (fx ++ args.toList.map a.eval ++ fy).toArray).run P w = .ok (.enter g (fx ++ args.toList.map a.eval ++ fy).toArray) w := by
            have hname' : ¬ fn.name = "runtime.NumGoroutine" := by simpa using hname
            simp [callFunc, hfn, hname', hbody]
          rw [hcf, Oper.upon_enter]
          refine (hc.calls g _ st v st' e ρ h w _ hr ha hf hrels).mono ?_
          rintro e' w' ⟨u, ρ', rfl, hp, hv⟩
          exact hk ρ' w' u hp hv
        · rename_i hbody
          split at e
          · rename_i v0 hx
            cases e
            obtain ⟨u, h1, h2⟩ := ok.ext g fn ρ _ _ _ hfn hbody hx hrels w
            rw [h1, Oper.upon_value]
            exact hk ρ w u (by rw [upd_self ha]; exact Post.refl hr ha) h2
          · cases e
      · cases e
    · cases e
  · cases e

theorem op_sound (ok : ProgOk P) (hc : CallOk P call) (hr : HR ρ h w) (ha : Agree st h) (htr : TR ρ tmps a.tmps) {o : Oper} {v : AV} {st' : St} (e : opA P call tmps st o.op = some (v, st')) (hf : Fresh ρ h st st')
    {next : Act → World → Prop} {Q : Exit → Act → World → Prop} (hk : ∀ ρ' w' u, Post ρ h w st ρ' (upd st' h) w' st' → Rel ρ' v u → next (a.put o.dst u) w') : o.wp P a w next Q := by
  unfold opA at e
  split at e
  · split at e
    · rename_i v0 hv
      cases e
      obtain ⟨u, h1, h2⟩ := pure_sound (P := P) w htr hv
      unfold Oper.wp
      rw [h1, Oper.upon_value]
      exact hk ρ w u (by rw [upd_self ha]; exact Post.refl hr ha) h2
    · cases e
  · split at e
    · rename_i v0 cs hv
      cases e
      obtain ⟨u, vs, ty, h1, h2, h3⟩ := alloc_real (P := P) w htr hv
      have hP := new_Post (ty := ty) hr ha hf h2
      unfold Oper.wp
      rw [h1, Oper.upon_value]
      exact hk _ _ u hP (h3 _ (by simp))
    · cases e
  · split at e
    · rename_i b off n mk hv
      split at e
      · rename_i l hl
        split at e
        · rename_i v0 hm
          cases e
          obtain ⟨ro, fam, cs, hb, hread⟩ := St.read_some hl
          have hbn := St.get_lt ha hb
          obtain ⟨u, h1, h2⟩ := read_real (P := P) hr htr hv (by rw [ha.eq b hbn]; exact hb) hread hm
          unfold Oper.wp
          rw [h1, Oper.upon_value]
          exact hk ρ w u (by rw [upd_self ha]; exact Post.refl hr ha) h2
        · cases e
      · cases e
    · cases e
  · exact eff_sound ok hc hr ha htr e hf hk
end

end Go.Den
