/- The pure operations: one law for all. -/
import Derived.Test.YtekedhfmdpbplaaDenD
set_option linter.unusedSimpArgs false
set_option linter.unusedVariables false
namespace Go.Den
open Go

section
variable {P : Program} {ρ : Rho} (w : World)

theorem size_mk (l : List UInt8) : (ByteArray.mk l.toArray).size = l.length := by simp [ByteArray.size]
theorem asInt_int (k : IntKind) (i : Int) : (asIntOf (.int k i)).run P w = .ok (k, i) w := rfl
theorem run_indexAddrA {t : TypeId} {x ix a : AV} {u v : Value} (h : indexAddrA P t x ix = some a) (hu : Rel ρ x u) (hv : Rel ρ ix v) :
    ∃ r, (Instr.indexAt t u v).run P w = .ok r w ∧ Rel ρ a r := by
  unfold indexAddrA at h
  split at h
  · rename_i k i
    simp only [Rel] at hv; subst hv
    split at h
    · rename_i len e ht
      split at h
      · rename_i b off n hn
        split at h
        · rename_i hb
          simp only [Bool.and_eq_true, decide_eq_true_eq] at hb
          cases h
          simp only [Rel] at hu
          obtain ⟨B, o, r, hρ, rfl⟩ := hu
          refine ⟨.pointer (some ⟨B, o + (off + i.toNat * n), none⟩), ?_, by simp only [Rel]; exact ⟨B, o, r, hρ, rfl⟩⟩
          simp [Instr.indexAt, asIntOf, run_underlying ht, Instr.sureAddr, hb, run_sizeA hn, Addr.add_lit, Nat.add_assoc]
        · cases h
      · cases h
    · rename_i e ht
      split at h
      · rename_i b off len cap n hn
        split at h
        · rename_i hb
          simp only [Bool.and_eq_true, decide_eq_true_eq] at hb
          cases h
          have : ∃ B o r c, ρ b = some (B, o, r) ∧ u = .slice (some ⟨B, o + off, none⟩) len c := by
            cases cap with
            | known c => simp only [Rel] at hu; obtain ⟨B, o, r, hρ, _, e⟩ := hu; exact ⟨B, o, r, c, hρ, e⟩
            | more lb sz =>
              simp only [Rel] at hu; obtain ⟨B, o, r, cap, hρ, h1, h2, _, e | ⟨h3, x, e⟩⟩ := hu
              · exact ⟨B, o, r, cap, hρ, e⟩
              · omega
          obtain ⟨B, o, r, c, hρ, rfl⟩ := this
          refine ⟨.pointer (some ⟨B, o + (off + i.toNat * n), none⟩), ?_, by simp only [Rel]; exact ⟨B, o, r, hρ, rfl⟩⟩
          simp [Instr.indexAt, asIntOf, run_underlying ht, hb, run_sizeA hn, Addr.add_lit, Nat.add_assoc]
        · cases h
      · cases h
    · cases h
  · cases h
theorem run_indexA {t : TypeId} {x ix a : AV} {u v : Value} (h : indexA P t x ix = some a) (hu : Rel ρ x u) (hv : Rel ρ ix v) :
    ∃ r, (Instr.index t u v).run P w = .ok r w ∧ Rel ρ a r := by
  unfold indexA at h
  split at h
  · rename_i k i
    simp only [Rel] at hv; subst hv
    split at h
    · rename_i len e cs ht
      split at h
      · rename_i n hb hn
        simp only [Bool.and_eq_true, decide_eq_true_eq] at hb
        simp only [Rel] at hu
        obtain ⟨l, rfl, hl⟩ := hu
        obtain ⟨r, hr, hrel⟩ := run_part h hl w
        exact ⟨r, by simp [Instr.index, asIntOf, run_underlying ht, hb, run_sizeA hn, hr], hrel⟩
      · cases h
    · rename_i s ht
      split at h
      · rename_i hi
        have hi' : 0 ≤ i := of_decide_eq_true hi
        split at h
        · rename_i b hb
          cases h
          have e := hu.str_inv
          subst e
          refine ⟨.int .u8 b.toNat, ?_, by simp [Rel]⟩
          have hg : (ByteArray.mk s.toArray)[i.toNat]? = some b := by
            have hlt : i.toNat < s.length := (List.getElem?_eq_some_iff.1 hb).1
            have hs : i.toNat < (ByteArray.mk s.toArray).size := by simpa [ByteArray.size] using hlt
            rw [getElem?_pos (ByteArray.mk s.toArray) i.toNat hs]
            have := (List.getElem?_eq_some_iff.1 hb).2
            simpa [ByteArray.getElem_eq_getElem_data] using this
          simp [Instr.index, asIntOf, run_underlying ht, hi', hg]
        · cases h
      · cases h
    · cases h
  · cases h
theorem run_fieldAddrA {t : TypeId} {x a : AV} {f : Nat} {u : Value} (h : fieldAddrA P t x f = some a) (hu : Rel ρ x u) :
    ∃ r, (Instr.fieldAt t u f).run P w = .ok r w ∧ Rel ρ a r := by
  unfold fieldAddrA at h
  split at h
  · rename_i fs b off ht
    split at h
    · cases h
    · rename_i fd hfd
      split at h
      · cases h
      · rename_i n hn
        split at h
        · cases h
        · rename_i h0
          cases h
          have h0' : ¬ n = 0 := fun e => by subst e; cases h0
          simp only [Rel] at hu
          obtain ⟨B, o, r, hρ, rfl⟩ := hu
          refine ⟨.pointer (some ⟨B, o + (off + fd.offset), none⟩), ?_, by simp only [Rel]; exact ⟨B, o, r, hρ, rfl⟩⟩
          simp [Instr.fieldAt, run_underlying ht, hfd, Instr.sureAddr, fieldPlace, run_sizeA hn, h0', Addr.add_lit, Nat.add_assoc]
  · cases h
theorem run_fieldA {t : TypeId} {x a : AV} {f : Nat} {u : Value} (h : fieldA P t x f = some a) (hu : Rel ρ x u) :
    ∃ r, (Instr.field t u f).run P w = .ok r w ∧ Rel ρ a r := by
  unfold fieldA at h
  split at h
  · rename_i fs cs ht
    split at h
    · cases h
    · rename_i fd hfd
      simp only [Rel] at hu
      obtain ⟨l, rfl, hl⟩ := hu
      obtain ⟨r, hr, hrel⟩ := run_part h hl w
      exact ⟨r, by simp [Instr.field, run_underlying ht, hfd, asAgg, hr], hrel⟩
  · cases h
theorem run_sliceA {t : TypeId} {x a : AV} {lo hi mx : Option AV} {lo' hi' mx' : Option Value} {u : Value} (h : sliceA P t x lo hi mx = some a) (hu : Rel ρ x u)
    (rl : RelO ρ lo lo') (rh : RelO ρ hi hi') (rm : RelO ρ mx mx') :
    ∃ r, (Instr.sliceAt t u lo' hi' mx').run P w = .ok r w ∧ Rel ρ a r := by
  unfold sliceA at h
  split at h
  · rename_i ht
    split at h
    · rename_i s
      have e := hu.str_inv
      subst e
      obtain ⟨r, hr, hrel⟩ := run_sliceStr w ht h rl rh rm
      exact ⟨r, by simp [Instr.sliceAt, run_underlying ht, hr], hrel⟩
    · cases h
  · rename_i e ht
    split at h
    · rename_i y len cap n hn
      obtain ⟨r, hr, hrel⟩ := run_sliceSl w ht hn h hu rl rh rm
      exact ⟨r, by simp [Instr.sliceAt, run_underlying ht, hr], hrel⟩
    · cases h
  · rename_i k e ht
    split at h
    · rename_i b off n hn
      simp only [Rel] at hu
      obtain ⟨B, o, r, hρ, rfl⟩ := hu
      unfold sliceSl at h
      simp only at h
      split at h
      · cases h
      · rename_i hmx
        have hmx' : mx.isSome = true → hi.isSome = true := by
          intro e; rw [e] at hmx; cases hi <;> simp at hmx ⊢
        split at h
        · cases h
        · rename_i m hm
          split at h
          · cases h
          · rename_i hn2 hh
            split at h
            · cases h
            · rename_i l hl
              obtain ⟨h1, h2, h3, h4⟩ := run_sliceBounds (P := P) w (isSl := false) hm hh hl hmx' rl rh rm
              have hle : hn2 - l ≤ m - l := by have := h3 (Nat.le_refl _); omega
              split at h
              · rename_i hml
                cases h
                have hml' := Nat.eq_of_beq_eq_true hml
                refine ⟨.slice (some ⟨B, o + off, none⟩) (hn2 - l) (m - l), ?_, by simp only [Rel]; exact ⟨B, o, r, hρ, hle, rfl⟩⟩
                simp [Instr.sliceAt, run_underlying ht, Instr.sureAddr, h1, run_sizeA hn, hml']
              · rename_i hml
                cases h
                have hml' : ¬ m = l := fun e => by subst e; simp at hml
                refine ⟨.slice (some ⟨B, o + (off + l * n), none⟩) (hn2 - l) (m - l), ?_, by simp only [Rel]; exact ⟨B, o, r, hρ, hle, rfl⟩⟩
                simp [Instr.sliceAt, run_underlying ht, Instr.sureAddr, h1, run_sizeA hn, hml', Addr.add_lit, Nat.add_assoc]
    · cases h
  · cases h
theorem run_convA {src dst : TypeId} {x a : AV} {u : Value} (h : convA P src dst x = some a) (hu : Rel ρ x u) :
    ∃ r, (convert src dst u).run P w = .ok r w ∧ Rel ρ a r := by
  unfold convA at h
  split at h
  · rename_i d k k' n hs hd
    cases h
    simp only [Rel] at hu; subst hu
    exact ⟨_, by simp [convert, run_underlying hs, run_underlying hd, Conv.intToInt]; rfl, by simp [Rel]⟩
  · rename_i d s hs hd
    cases h
    have e := hu.str_inv
    subst e
    refine ⟨_, ?_, by simp [Rel]; rfl⟩
    cases d <;> simp [convert, run_underlying hs, run_underlying hd]
  · cases h
theorem run_minmaxA {b : Bool} {l : List AV} {a : AV} {vs : List Value} (h : minmaxA b l = some a) (hu : Rels ρ l vs) (ts : Array TypeId) (t : TypeId) :
    ∃ r, (if b then Builtin.max_ ts t vs.toArray else Builtin.min_ ts t vs.toArray).run P w = .ok r w ∧ Rel ρ a r := by
  unfold minmaxA at h
  split at h
  · cases h
    simp only [Rels, Rel] at hu
    obtain ⟨_, _, rfl, rfl, _, _, rfl, rfl, rfl⟩ := hu
    cases b
    · exact ⟨_, by simp [Builtin.min_, Builtin.min2, List.foldlM]; rfl, by simp [Rel]⟩
    · exact ⟨_, by simp [Builtin.max_, Builtin.max2, List.foldlM]; rfl, by simp [Rel]⟩
  · cases h
    simp only [Rels, Rel] at hu
    obtain ⟨_, _, rfl, rfl, _, _, rfl, rfl, _, _, rfl, rfl, rfl⟩ := hu
    cases b
    · exact ⟨_, by simp [Builtin.min_, Builtin.min2, List.foldlM]; rfl, by simp [Rel]⟩
    · exact ⟨_, by simp [Builtin.max_, Builtin.max2, List.foldlM]; rfl, by simp [Rel]⟩
  · cases h

/- ### operands -/
/-- The slots. -/
def TR (ρ : Rho) (tmps : List AV) (arr : Array Value) : Prop := tmps.length = arr.size ∧ ∀ t : Nat, Rel ρ (tmps.getD t undefA) (arr.getD t undef)
theorem TR.mono {ρ ρ' : Rho} {tmps : List AV} {arr : Array Value} (h : TR ρ tmps arr) (hle : ρ.le ρ') : TR ρ' tmps arr := ⟨h.1, fun t => (h.2 t).mono hle⟩
variable {tmps : List AV} {a : Act}
theorem ev_sound (h : TR ρ tmps a.tmps) {x : Operand} {v : AV} (e : evA tmps x = some v) : Rel ρ v (a.eval x) := by
  cases x with
  | tmp t => simp only [evA] at e; cases e; exact h.2 t
  | const c => exact rel_ofVal _ _ e
  | global g => simp only [evA] at e; cases e; simp [Rel, Act.eval]
  | func f => simp only [evA] at e; cases e; simp [Rel, Rels, Act.eval]
theorem evs_sound (h : TR ρ tmps a.tmps) : ∀ {xs : List Operand} {vs : List AV}, evsA tmps xs = some vs → Rels ρ vs (xs.map a.eval)
  | [], vs, e => by simp only [evsA] at e; cases e; exact Rels.nil
  | x :: xs, vs, e => by
    simp only [evsA] at e
    split at e
    · cases e
    · rename_i v hv
      split at e
      · cases e
      · rename_i l hl
        cases e
        exact Rels.cons (ev_sound h hv) (evs_sound h hl)
theorem evOpt_sound (h : TR ρ tmps a.tmps) {x : Option Operand} {v : Option AV} (e : evOptA tmps x = some v) : RelO ρ v (x.map a.eval) := by
  cases x with
  | none => simp only [evOptA] at e; cases e; rfl
  | some x =>
    simp only [evOptA] at e
    split at e
    · cases e
    · rename_i u hu
      cases e
      exact ⟨_, rfl, ev_sound h hu⟩
theorem evParts_sound (h : TR ρ tmps a.tmps) : ∀ {xs : List (Nat × Operand)} {vs : List (Nat × AV)}, evPartsA tmps xs = some vs → RelParts ρ vs (xs.map fun (i, x) => (i, a.eval x))
  | [], vs, e => by simp only [evPartsA] at e; cases e; rfl
  | (i, x) :: xs, vs, e => by
    simp only [evPartsA] at e
    split at e
    · cases e
    · rename_i v hv
      split at e
      · cases e
      · rename_i l hl
        cases e
        exact ⟨_, _, rfl, ev_sound h hv, evParts_sound h hl⟩
theorem parts_toArray (xs : Array (Nat × Operand)) (f : Operand → Value) : (xs.map fun (i, x) => (i, f x)) = (xs.toList.map fun (i, x) => (i, f x)).toArray := by
  apply Array.ext'; simp

theorem pure_sound (h : TR ρ tmps a.tmps) {o : Oper} {v : AV} (e : pureA P tmps o.op = some v) : ∃ u, (execOp a.eval o).run P w = .ok (.value u) w ∧ Rel ρ v u := by
  obtain ⟨dst, op, type, pos, after, guard⟩ := o
  simp only at e
  unfold pureA at e
  split at e
  · exact ⟨_, rfl, ev_sound h e⟩
  · exact ⟨_, rfl, ev_sound h e⟩
  · rename_i c x y
    split at e
    · rename_i hc
      have := ev_sound h hc
      simp only [Rel] at this
      exact ⟨_, by simp [execOp, this, asBool], ev_sound h e⟩
    · rename_i hc
      have := ev_sound h hc
      simp only [Rel] at this
      exact ⟨_, by simp [execOp, this, asBool], ev_sound h e⟩
    · cases e
  · rename_i t parts
    split at e
    · rename_i l hl
      obtain ⟨r, hr, hrel⟩ := run_buildA w e (evParts_sound h hl)
      refine ⟨r, ?_, hrel⟩
      simp only [execOp, parts_toArray, Sem.run_bind, hr, Result.andThen_ok, Sem.run_pure]
    · cases e
  · rename_i x
    split at e
    · rename_i p hp
      obtain ⟨b, off⟩ := p
      cases e
      have := ev_sound h hp
      have h' := this
      simp only [Rel] at this
      obtain ⟨B, o, r, hρ, hx⟩ := this
      exact ⟨a.eval x, by simp [execOp, hx], h'⟩
    · rename_i f first caps hp
      cases e
      have := ev_sound h hp
      have h' := this
      simp only [Rel] at this
      obtain ⟨y, z, hx, _, _⟩ := this
      exact ⟨a.eval x, by simp [execOp, hx], h'⟩
    · cases e
  · rename_i op t x y yt
    split at e
    · rename_i u v' hu hv
      obtain ⟨r, hr, hrel⟩ := run_binA w e (ev_sound h hu) (ev_sound h hv) x y
      refine ⟨r, ?_, hrel⟩
      simp only [execOp]
      rw [Sem.run_bind, hr]
      rfl
    · cases e
  · rename_i op t x
    split at e
    · rename_i u hu
      obtain ⟨r, hr, hrel⟩ := run_unA (P := P) w e (ev_sound h hu)
      exact ⟨r, by simp [execOp, hr], hrel⟩
    · cases e
  · rename_i src dst' x
    split at e
    · rename_i u hu
      obtain ⟨r, hr, hrel⟩ := run_convA w e (ev_sound h hu)
      exact ⟨r, by simp [execOp, hr], hrel⟩
    · cases e
  · rename_i f first captured
    split at e
    · rename_i l c hl hc
      cases e
      refine ⟨_, by simp [execOp, Instr.makeFunc]; rfl, ?_⟩
      simp only [Rel]
      exact ⟨first.toList.map a.eval, captured.toList.map a.eval, by congr 1 <;> (apply Array.ext'; simp), evs_sound h hl, evs_sound h hc⟩
    · cases e
  · rename_i t x lo hi mx
    split at e
    · rename_i u l h' m hu hl hh hm
      obtain ⟨r, hr, hrel⟩ := run_sliceA w e (ev_sound h hu) (evOpt_sound h hl) (evOpt_sound h hh) (evOpt_sound h hm)
      exact ⟨r, by simp [execOp, hr], hrel⟩
    · cases e
  · rename_i t x f
    split at e
    · rename_i u hu
      obtain ⟨r, hr, hrel⟩ := run_fieldAddrA w e (ev_sound h hu)
      exact ⟨r, by simp [execOp, hr], hrel⟩
    · cases e
  · rename_i t x f
    split at e
    · rename_i u hu
      obtain ⟨r, hr, hrel⟩ := run_fieldA w e (ev_sound h hu)
      exact ⟨r, by simp [execOp, hr], hrel⟩
    · cases e
  · rename_i t x ix
    split at e
    · rename_i u i hu hi
      obtain ⟨r, hr, hrel⟩ := run_indexAddrA w e (ev_sound h hu) (ev_sound h hi)
      exact ⟨r, by simp [execOp, hr], hrel⟩
    · cases e
  · rename_i t x ix
    split at e
    · rename_i u i hu hi
      obtain ⟨r, hr, hrel⟩ := run_indexA w e (ev_sound h hu) (ev_sound h hi)
      exact ⟨r, by simp [execOp, hr], hrel⟩
    · cases e
  · rename_i x i
    split at e
    · rename_i vs hx
      have := ev_sound h hx
      simp only [Rel] at this
      obtain ⟨l, hl, hrel⟩ := this
      obtain ⟨r, hr, hrr⟩ := hrel.get i v e
      exact ⟨r, by simp [execOp, Instr.extract, hl, hr], hrr⟩
    · cases e
  · rename_i x t
    have hlen : ∀ (n : Nat), (Builtin.len_ #[t] type #[a.eval x]).run P w = .ok (goInt n) w →
        (execOp a.eval { dst := dst, op := .call { callee := .builtin .len, args := #[x], argTypes := #[t] }, type := type, pos := pos, after := after, guard := guard }).run P w = .ok (.value (.int .i64 n)) w := by
      intro n hn
      simp [execOp, resolve, invoke, builtin, hn, goInt]
    split at e
    · rename_i s hx ht
      cases e
      have := ev_sound h hx
      have hx' := this.str_inv
      refine ⟨.int .i64 s.length, hlen _ ?_, by simp [Rel]⟩
      rw [hx']
      simp [Builtin.len_, run_underlying ht, size_mk]
    · rename_i p n c e0 hx ht
      cases e
      obtain ⟨q, c', hx'⟩ := (ev_sound h hx).sl_form
      refine ⟨.int .i64 n, hlen _ ?_, by simp [Rel]⟩
      rw [hx']
      simp [Builtin.len_, run_underlying ht]
    · rename_i av n e0 hx ht
      cases e
      refine ⟨.int .i64 n, hlen _ ?_, by simp [Rel]⟩
      simp [Builtin.len_, run_underlying ht]
    · cases e
  · rename_i x t
    split at e
    · rename_i p n c e0 hx ht
      cases e
      have := ev_sound h hx
      have hx' : ∃ q, a.eval x = .slice q n c := by
        rcases p with _ | ⟨_, _⟩ <;> simp only [Rel] at this
        · obtain ⟨rfl, e2, e3⟩ := this; cases e2; exact ⟨_, e3⟩
        · obtain ⟨B, o, r, _, _, e3⟩ := this; exact ⟨_, e3⟩
      obtain ⟨q, hx'⟩ := hx'
      refine ⟨.int .i64 c, ?_, by simp [Rel]⟩
      simp [execOp, resolve, invoke, builtin, hx', Builtin.cap_, run_underlying ht, goInt]
    · cases e
  · rename_i args ats
    split at e
    · rename_i l hl
      obtain ⟨r, hr, hrel⟩ := run_minmaxA w e (evs_sound h hl) ats type
      refine ⟨r, ?_, hrel⟩
      simp only [if_true] at hr
      simp only [execOp, resolve, Sem.run_bind, Sem.run_pure, Result.andThen_ok, invoke, builtin]
      rw [show args.map a.eval = (args.toList.map a.eval).toArray by apply Array.ext'; simp]
      rw [hr]; rfl
    · cases e
  · rename_i args ats
    split at e
    · rename_i l hl
      obtain ⟨r, hr, hrel⟩ := run_minmaxA w e (evs_sound h hl) ats type
      refine ⟨r, ?_, hrel⟩
      simp only [Bool.false_eq_true, if_false] at hr
      simp only [execOp, resolve, Sem.run_bind, Sem.run_pure, Result.andThen_ok, invoke, builtin]
      rw [show args.map a.eval = (args.toList.map a.eval).toArray by apply Array.ext'; simp]
      rw [hr]; rfl
    · cases e
  · cases e
end

end Go.Den
