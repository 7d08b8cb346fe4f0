/- Calls of just the blocks that they can come to. -/
import Derived.Test.YtkfdfenaaidkkaaSyT
set_option linter.unusedSimpArgs false
set_option linter.unusedVariables false
namespace Go.Sy
open Go

/- ### what is named is there -/
mutual
theorem ids_real {ρ : Rho} : ∀ (a : AV) (v : Value), Rel ρ a v → ∀ b ∈ idsV a, ρ b ≠ none
  | .any, _, h, b, hb => by simp [idsV] at hb
  | .bool _, _, h, b, hb => by simp [idsV] at hb
  | .int _ _, _, h, b, hb => by simp [idsV] at hb
  | .str _, _, h, b, hb => by simp [idsV] at hb
  | .ptr none, _, h, b, hb => by simp [idsV] at hb
  | .ptr (some (c, off)), _, h, b, hb => by
    simp only [Rel] at h
    obtain ⟨B, o, r, h1, _⟩ := h
    simp [idsV] at hb; subst hb; rw [h1]; simp
  | .nilSl, _, h, b, hb => by simp [idsV] at hb
  | .sl c off len cap, _, h, b, hb => by
    simp only [Rel] at h
    obtain ⟨B, o, r, h1, _⟩ := h
    simp [idsV] at hb; subst hb; rw [h1]; simp
  | .fn g first caps, _, h, b, hb => by
    simp only [Rel] at h
    obtain ⟨x, y, _, h2, h3⟩ := h
    simp only [idsV, List.mem_append] at hb
    rcases hb with hb | hb
    · exact ids_reals first x h2 b hb
    · exact ids_reals caps y h3 b hb
  | .nilFn, _, h, b, hb => by simp [idsV] at hb
  | .lit _, _, h, b, hb => by simp [idsV] at hb
  | .agg cs, _, h, b, hb => by
    simp only [Rel] at h
    obtain ⟨l, _, h2⟩ := h
    exact ids_reals cs l h2 b (by simpa [idsV] using hb)
  | .tup cs, _, h, b, hb => by
    simp only [Rel] at h
    obtain ⟨l, _, h2⟩ := h
    exact ids_reals cs l h2 b (by simpa [idsV] using hb)
  | .fz _ _ _, _, h, b, hb => by simp [idsV] at hb
  | .fref _ _, _, h, b, hb => by simp [idsV] at hb
  | .tsl nn e c off len cap, _, h, b, hb => by
    simp only [Rel] at h
    obtain ⟨B, o, r, h1, _⟩ := h
    simp [idsV] at hb; subst hb; rw [h1]; simp
  | .eptr e c i fo, _, h, b, hb => by
    simp only [Rel] at h
    obtain ⟨B, o, r, h1, _⟩ := h
    simp [idsV] at hb; subst hb; rw [h1]; simp
theorem ids_reals {ρ : Rho} : ∀ (as : List AV) (vs : List Value), Rels ρ as vs → ∀ b ∈ idsVs as, ρ b ≠ none
  | [], _, h, b, hb => by simp [idsVs] at hb
  | a :: as, _, h, b, hb => by
    simp only [Rels] at h
    obtain ⟨v, vs, rfl, h1, h2⟩ := h
    simp only [idsVs, List.mem_append] at hb
    rcases hb with hb | hb
    · exact ids_real a v h1 b hb
    · exact ids_reals as vs h2 b hb
end
theorem ground_real {ρ : Rho} {h : Hp} {w : World} {s : St} (hr : HR ρ h w) (ha : Agree s h) : ∀ (l known : List Nat), groundL s known l = true → (∀ b ∈ known, ρ b ≠ none) → ∀ b ∈ l, ρ b ≠ none
  | [], known, hg, hk, b, hb => by simp at hb
  | c :: l, known, hg, hk, b, hb => by
    simp only [groundL] at hg
    split at hg
    · rename_i x hx
      simp only [Bool.and_eq_true] at hg
      have hc := hk c (mem_iff.1 hg.1)
      rcases List.mem_cons.1 hb with rfl | hb
      · exact hc
      · refine ground_real hr ha l _ hg.2 (fun d hd => ?_) b hb
        rcases List.mem_append.1 hd with hd | hd
        · cases x with
          | cells cs =>
            obtain ⟨vs, hvs⟩ := hr.cellsOf ha c cs hx hc
            exact ids_reals cs vs hvs d (by simpa [idsE] using hd)
          | tbl ro e l => simp [idsE] at hd
          | dead => simp [idsE] at hd
        · exact hk d hd
    · cases hg

/- ### blocks laid back -/
theorem backs_nil {f : Nat → Nat} : ∀ (xs s : St), backs f s [] xs = s ++ xs.map (renE f)
  | [], s => by simp [backs]
  | x :: xs, s => by simp [backs, backs_nil xs]
theorem backs_spec {f : Nat → Nat} : ∀ (l : List Nat) (xs s : St), l.Nodup → (∀ b ∈ l, b < s.length) → l.length ≤ xs.length →
    (backs f s l xs).length = s.length + (xs.length - l.length) ∧ (∀ (j b : Nat), l[j]? = some b → (backs f s l xs)[b]? = (xs[j]?).map (renE f)) ∧
      (∀ (i : Nat), i < s.length → i ∉ l → (backs f s l xs)[i]? = s[i]?) ∧ (∀ (i : Nat), s.length ≤ i → (backs f s l xs)[i]? = (xs[l.length + (i - s.length)]?).map (renE f))
  | [], xs, s, hn, hb, hl => by
    rw [backs_nil]
    refine ⟨by simp, fun j b h => by simp at h, fun i hi _ => by rw [List.getElem?_append_left hi], fun i hi => ?_⟩
    rw [List.getElem?_append_right hi, List.getElem?_map]
    simp
  | b :: l, [], s, hn, hb, hl => by simp at hl
  | b :: l, x :: xs, s, hn, hb, hl => by
    have hn' := List.nodup_cons.1 hn
    have hbl := hb b (by simp)
    simp only [backs]
    obtain ⟨h1, h2, h3, h4⟩ := backs_spec (f := f) l xs (s.set b (renE f x)) hn'.2 (fun c hc => by rw [List.length_set]; exact hb c (List.mem_cons_of_mem _ hc)) (by simpa using hl)
    rw [List.length_set] at h1 h3 h4
    refine ⟨by rw [h1]; simp, fun j c hj => ?_, fun i hi hil => ?_, fun i hi => ?_⟩
    · cases j with
      | zero =>
        simp at hj; subst hj
        rw [h3 b hbl hn'.1, List.getElem?_set_self hbl]; rfl
      | succ j => simpa using h2 j c (by simpa using hj)
    · simp only [List.mem_cons, not_or] at hil
      rw [h3 i hi hil.2, List.getElem?_set_ne (fun e => hil.1 e.symm)]
    · rw [h4 i hi, List.length_cons, show l.length + 1 + (i - s.length) = (l.length + (i - s.length)) + 1 by omega, List.getElem?_cons_succ]
theorem back_run {s : St} {l fr : List Nat} {v : AV} {s' : St} {tch : List Nat} : ∀ {T : RT}, (T.back s l fr).run = some (v, s', tch) → ∃ v0 s0 tch0, T.run = some (v0, s0, tch0) ∧ v = renV (fwd s l) v0 ∧ s' = backs (fwd s l) s l s0 ∧ tch = l ++ fr
  | .fail, e => by cases e
  | .ok g v0 s0 tch0, e => by
    simp only [RT.back] at e
    obtain ⟨h1, h2, h3, h4⟩ := run_ok e
    exact ⟨v0, s0, tch0, by simp [RT.run, h1], h2, h3, h4⟩
  | .br b x y, e => by
    simp only [RT.back] at e
    rcases run_br e with ⟨hb, e⟩ | ⟨hb, e⟩
    · obtain ⟨v0, s0, t0, h1, h2⟩ := back_run e
      exact ⟨v0, s0, t0, by simp [RT.run, hb, h1], h2⟩
    · obtain ⟨v0, s0, t0, h1, h2⟩ := back_run e
      exact ⟨v0, s0, t0, by simp [RT.run, hb, h1], h2⟩

/- ### functions whose answer is told -/
structure SpecOk (P : Program) (g : FuncId) (f : List AV → St → RT) : Prop where
  len : ∀ args s v s' tch, (f args s).run = some (v, s', tch) → s.length ≤ s'.length
  calls : ∀ args s v s' tch, (f args s).run = some (v, s', tch) → ∀ ρ w vargs, InvC ρ s w → Rels ρ args vargs →
    Calls P g vargs.toArray w fun e w' => ∃ u ρ', e = .returned u ∧ PostC s.length ρ s w ρ' s' w' ∧ Rel ρ' v u
def PrOk (P : Program) (pr : FuncId → Option Spec) : Prop := ∀ g sp, pr g = some sp → SpecOk P g sp.f

theorem callS_ok {P : Program} {pr : FuncId → Option Spec} (hpr : PrOk P pr) : CallOk P (callS pr) := by
  have key : ∀ g args s v s' tch, (callS pr g args s).run = some (v, s', tch) → (s.length ≤ s'.length ∧ ∀ b, b < s.length → b ∉ tch → s'[b]? = s[b]?) ∧
      ∀ (ρ : Rho) (h : Hp) (w : World) (vargs : List Value), HR ρ h w → Agree s h → Fresh ρ s s' → Rels ρ args vargs → Calls P g vargs.toArray w (Answers P ρ h w s v s') := by
    intro g args s v s' tch e
    unfold callS at e
    split at e
    · cases e
    · rename_i sp hsp
      split at e
      · cases e
      · rename_i gd args' fr hm
        simp only at e
        generalize hl : reach (freeze s fr) ((freeze s fr).length * (freeze s fr).length + 100) (idsVs args') [] = l at e
        split at e
        · rename_i hchk
          simp only [Bool.and_eq_true] at hchk
          obtain ⟨hcl, hlive, hground⟩ := hchk
          rcases run_br e with ⟨hgd, e⟩ | ⟨_, e⟩
          · obtain ⟨v0, s0, tch0, hrun, rfl, rfl, rfl⟩ := back_run e
            have hSp := hpr g sp hsp
            have hlen0 := hSp.len _ _ _ _ _ hrun
            rw [picks_length] at hlen0
            have hcl' := hcl
            simp only [closedL, Bool.and_eq_true] at hcl'
            have hnd := nodupL_iff hcl'.2.2
            have hents := entsMem_spec hcl'.2.1
            have hlt : ∀ b ∈ l, b < (freeze s fr).length := fun b hb => by
              obtain ⟨x, hx, _⟩ := hents b hb
              exact (List.getElem?_eq_some_iff.1 hx).1
            have hfl := freeze_length fr s
            obtain ⟨b1, b2, b3, b4⟩ := backs_spec (f := fwd (freeze s fr) l) l s0 (freeze s fr) hnd hlt hlen0
            refine ⟨⟨by omega, fun b hb ht => ?_⟩, fun ρ h w vargs hr ha hf hrel => ?_⟩
            · simp only [List.mem_append, not_or] at ht
              rw [b3 b (by omega) ht.1]
              exact freeze_other fr s ht.2
            · subst hgd
              -- freeze, pick
              obtain ⟨ρ1, hp1, hat1, hF⟩ := freeze_post fr hr ha (modes_ids (hr.cellsOf ha) hm hrel)
              have hargs := modes_sound hm (Rels.mono hp1.ext _ _ hrel) hF
              have hh1 : ∀ b ∈ l, upd (freeze s fr) h b = (freeze s fr)[b]? := fun b hb => upd_lt (hlt b hb)
              obtain ⟨ρ0, hinv, hpos, hat, hfz, hatn⟩ := pick_inv (vs := args') hp1.hr hh1 hcl
              have hreal := ground_real hp1.hr hp1.agree l _ hground (ids_reals args' vargs hargs)
              have hfz0 : ∀ B o v, ρ1.fz B o = some v → ρ0.fz B o = some v := fun B o v e => by rw [hfz]; exact e
              have hargs0 : Rels ρ0 (renVs (pos l) args') vargs := Rels.ren hfz0 args' vargs (fun b hb x hx => by rw [hpos b (allMem_iff.1 hcl'.1 b hb)]; exact hx) hargs
              refine (hSp.calls _ _ _ _ _ hrun ρ0 w vargs hinv hargs0).mono ?_
              rintro e' w' ⟨u, ρ0', rfl, hpc, hv⟩
              rw [picks_length] at hpc
              -- where things are now
              generalize hs1 : freeze s fr = s1 at *
              generalize hk : l.length = k at *
              generalize hsn : backs (fwd s1 l) s1 l s0 = s' at *
              obtain ⟨ρ', hρ'⟩ : ∃ ρ' : Rho, ρ' = { at_ := fun i => if i < s1.length ∨ s'.length ≤ i then ρ1 i else ρ0' (k + (i - s1.length)), fz := ρ0'.fz } := ⟨_, rfl⟩
              have hatO : ∀ i, (i < s1.length ∨ s'.length ≤ i) → ρ' i = ρ1 i := fun i hi => by rw [hρ']; simp only; rw [if_pos hi]
              have hatN : ∀ i, s1.length ≤ i → i < s'.length → ρ' i = ρ0' (k + (i - s1.length)) := fun i h1 h2 => by rw [hρ']; simp only; rw [if_neg (by omega)]
              have hfzE : ρ'.fz = ρ0'.fz := by rw [hρ']
              have hfzle : ∀ B o v, ρ1.fz B o = some v → ρ'.fz B o = some v := fun B o v e => by rw [hfzE]; exact hpc.fz B o v (hfz0 B o v e)
              have hfzle0 : ∀ B o v, ρ0'.fz B o = some v → ρ'.fz B o = some v := fun B o v e => by rw [hfzE]; exact e
              have hfwd : ∀ j X, ρ0' j = some X → ρ' (fwd s1 l j) = some X := fun j X hj => by
                unfold fwd
                cases hlj : l[j]? with
                | some b =>
                  have hjk : j < k := by rw [← hk]; exact (List.getElem?_eq_some_iff.1 hlj).1
                  have hb := List.mem_of_getElem? hlj
                  simp only
                  rw [hatO b (.inl (hlt b hb)), ← hat j b hlj, ← hpc.base j hjk]; exact hj
                | none =>
                  have hjk : k ≤ j := by rw [← hk]; exact List.getElem?_eq_none_iff.1 hlj
                  have hj0 : j < s0.length := by
                    rcases Nat.lt_or_ge j s0.length with h1 | h1
                    · exact h1
                    · rw [hpc.inv.dom j h1] at hj; cases hj
                  simp only
                  rw [hk, hatN _ (by omega) (by omega), show k + (s1.length + (j - k) - s1.length) = j by omega]
                  exact hj
              -- an entry of the callee's, or another one
              have hcls : ∀ i X x, ρ' i = some X → upd s' (upd s1 h) i = some x →
                  (∃ j x0, ρ0' j = some X ∧ s0[j]? = some x0 ∧ x = renE (fwd s1 l) x0 ∧ fwd s1 l j = i) ∨ (i ∉ l ∧ ρ1 i = some X ∧ upd s1 h i = some x) := fun i X x h1 h2 => by
                by_cases hil : i ∈ l
                · left
                  have hjl := pos_get hil
                  have hil' := hlt i hil
                  rw [upd_lt (by omega), b2 _ i hjl] at h2
                  cases hx0 : s0[pos l i]? with
                  | none => rw [hx0] at h2; cases h2
                  | some x0 =>
                    rw [hx0] at h2
                    simp only [Option.map_some, Option.some.injEq] at h2
                    refine ⟨pos l i, x0, ?_, hx0, h2.symm, by unfold fwd; rw [hjl]⟩
                    rw [hpc.base _ (by rw [← hk]; exact pos_lt hil), hpos i hil, ← hatO i (.inl hil')]; exact h1
                · by_cases hN : s1.length ≤ i ∧ i < s'.length
                  · left
                    rw [hatN i hN.1 hN.2] at h1
                    rw [upd_lt hN.2, b4 i hN.1] at h2
                    cases hx0 : s0[k + (i - s1.length)]? with
                    | none => rw [hx0] at h2; cases h2
                    | some x0 =>
                      rw [hx0] at h2
                      simp only [Option.map_some, Option.some.injEq] at h2
                      refine ⟨_, x0, h1, hx0, h2.symm, ?_⟩
                      unfold fwd
                      rw [List.getElem?_eq_none (by rw [hk]; omega), hk]
                      simp only
                      omega
                  · right
                    have hO : i < s1.length ∨ s'.length ≤ i := by omega
                    rw [hatO i hO] at h1
                    refine ⟨hil, h1, ?_⟩
                    rcases hO with hO | hO
                    · rw [upd_lt (by omega), b3 i hO hil] at h2
                      rw [upd_lt hO]; exact h2
                    · rw [upd_ge hO] at h2; exact h2
              -- the callee's blocks ahead of the call, seen from here
              have hback : ∀ j x v o r B, ρ0 j = some (B, o, r) → hpS (picks s1 (pos l) l) j = some x → x.view = some v → ∃ b y cs, b ∈ l ∧ ρ1 b = some (B, o, r) ∧ upd s1 h b = some y ∧ y.view = some (v.1, cs) := fun j x v o r B h1 h2 h3 => by
                have h2 : (picks s1 (pos l) l)[j]? = some x := h2
                rw [picks_get] at h2
                cases hj : l[j]? with
                | none => rw [hj] at h2; cases h2
                | some b =>
                  have hb := List.mem_of_getElem? hj
                  obtain ⟨y, hy, _⟩ := hents b hb
                  rw [hj] at h2
                  simp only [Option.map_some, hy, Option.some.injEq] at h2
                  subst h2
                  obtain ⟨cs, v1, _⟩ := view_ren h3
                  exact ⟨b, y, cs, hb, by rw [← hat j b hj]; exact h1, by rw [hh1 b hb]; exact hy, v1⟩
              have hOutC : ∀ i B o r x cs, i ∉ l → ρ1 i = some (B, o, r) → r ≠ 0 → upd s1 h i = some x → x.view = some (false, cs) → Out ρ0 (hpS (picks s1 (pos l) l)) B := fun i B o r x cs hi h1 h2 h3 h4 j o' r' y v k1 k2 k3 k4 => by
                obtain ⟨b, z, cs', hb, q1, q2, q3⟩ := hback j y v o' r' B k1 k3 k4
                exact hp1.hr.apart i b B o r o' r' x z false v.1 cs cs' (fun e => hi (e ▸ hb)) h1 q1 h2 k2 h3 q2 h4 q3 (.inl rfl)
              have hFreeC : ∀ i B o r x v, i ∉ l → ρ1 i = some (B, o, r) → r ≠ 0 → upd s1 h i = some x → x.view = some v → Free ρ0 (hpS (picks s1 (pos l) l)) B := fun i B o r x v hi h1 h2 h3 h4 j o' r' y cs k1 k2 k3 k4 => by
                obtain ⟨b, z, cs', hb, q1, q2, q3⟩ := hback j y _ o' r' B k1 k3 k4
                exact hp1.hr.apart i b B o r o' r' x z v.1 false v.2 cs' (fun e => hi (e ▸ hb)) h1 q1 h2 k2 h3 q2 h4 q3 (.inr rfl)
              have hlt1 : ∀ i B o r x v, ρ1 i = some (B, o, r) → r ≠ 0 → upd s1 h i = some x → x.view = some v → B < w.heap.size := fun i B o r x v h1 h2 h3 h4 => (hp1.hr.cell i B o r x v.1 v.2 h1 h3 h4).lt h2
              have hFree0 : ∀ B, Free ρ1 (upd s1 h) B → Free ρ0 (hpS (picks s1 (pos l) l)) B := fun B hF j o' r' y cs k1 k2 k3 k4 => by
                obtain ⟨b, z, cs', hb, q1, q2, q3⟩ := hback j y _ o' r' B k1 k3 k4
                exact hF b o' r' z cs' q1 k2 q2 q3
              have hOut0 : ∀ B, Out ρ1 (upd s1 h) B → Out ρ0 (hpS (picks s1 (pos l) l)) B := fun B hF j o' r' y v k1 k2 k3 k4 => by
                obtain ⟨b, z, cs', hb, q1, q2, q3⟩ := hback j y _ o' r' B k1 k3 k4
                exact hF b o' r' z _ q1 k2 q2 q3
              have hls : s1.length ≤ s'.length := by omega
              have hfzh' : ∀ (B o : Nat) (v : Value), ρ'.fz B o = some v → w'.cell? ⟨B, o, none⟩ = some v := fun B o v e => hpc.inv.hr.fzh B o v (by rw [hfzE] at e; exact e)
              have hle1 : ρ1.le ρ' := by
                refine ⟨fun i x e => ?_, hfzle⟩
                by_cases hO : i < s1.length ∨ s'.length ≤ i
                · rw [hatO i hO]; exact e
                · exfalso
                  have := hf i (by omega) (by omega)
                  rw [hat1, this] at e
                  cases e
              have hframe : ∀ B, B < w.heap.size → Free ρ h B → w'.heap[B]? = w.heap[B]? ∧ Free ρ' (upd s' (upd s1 h)) B := fun B hB hF => by
                have f1 := (hp1.frame B hB hF).2
                obtain ⟨g1, g2⟩ := hpc.frame B hB (hFree0 B f1)
                refine ⟨g1, fun i o r x cs h1 h2 h3 h4 => ?_⟩
                rcases hcls i _ x h1 h3 with ⟨j, x0, k1, k2, rfl, k4⟩ | ⟨hil, k1, k2⟩
                · obtain ⟨c1, v1, _⟩ := view_ren h4
                  exact g2 j o r x0 c1 k1 h2 k2 v1
                · exact f1 i o r x cs k1 h2 k2 h4
              have HRn : HR ρ' (upd s' (upd s1 h)) w' := by
                refine ⟨?_, ?_, hfzh', ?_, ?_, hr.globs hframe⟩
                · intro i B o r x ro cs h1 h2 h3
                  rcases hcls i _ x h1 h2 with ⟨j, x0, k1, k2, rfl, k4⟩ | ⟨hil, k1, k2⟩
                  · exact Holds.renE (v := (ro, cs)) hfzle0 (fun c _ y hy => hfwd c y hy) h3 (fun ro' cs' e => hpc.inv.hr.cell j B o r x0 ro' cs' k1 k2 e)
                  · have H := hp1.hr.cell i B o r x ro cs k1 k2 h3
                    refine H.move hle1 hpc.size ?_ hfzh'
                    by_cases h0 : r = 0
                    · exact .inl h0
                    · exact .inr (hpc.frame B (H.lt h0) (hFreeC i B o r x _ hil k1 h0 k2 h3)).1
                · intro i i' B o r o' r' x y ro ro' cs cs' hii h1 h2 h3 h4 h5 h6 h7 h8 h9
                  rcases hcls i _ x h1 h5 with ⟨j, x0, k1, k2, rfl, k4⟩ | ⟨hil, k1, k2⟩
                  · obtain ⟨c1, v1, _⟩ := view_ren h7
                    rcases hcls i' _ y h2 h6 with ⟨j', y0, m1, m2, rfl, m4⟩ | ⟨hil', m1, m2⟩
                    · obtain ⟨c2, v2, _⟩ := view_ren h8
                      exact hpc.inv.hr.apart j j' B o r o' r' x0 y0 ro ro' c1 c2 (fun e => hii (by rw [← k4, ← m4, e])) k1 m1 h3 h4 k2 m2 v1 v2 h9
                    · have hB := hlt1 i' B o' r' y _ m1 h4 m2 h8
                      rcases h9 with rfl | rfl
                      · exact (hpc.frame B hB (hFreeC i' B o' r' y _ hil' m1 h4 m2 h8)).2 j o r x0 c1 k1 h3 k2 v1
                      · exact hpc.out B hB (hOutC i' B o' r' y cs' hil' m1 h4 m2 h8) j o r x0 _ k1 h3 k2 v1
                  · rcases hcls i' _ y h2 h6 with ⟨j', y0, m1, m2, rfl, m4⟩ | ⟨hil', m1, m2⟩
                    · obtain ⟨c2, v2, _⟩ := view_ren h8
                      have hB := hlt1 i B o r x _ k1 h3 k2 h7
                      rcases h9 with rfl | rfl
                      · exact hpc.out B hB (hOutC i B o r x cs hil k1 h3 k2 h7) j' o' r' y0 _ m1 h4 m2 v2
                      · exact (hpc.frame B hB (hFreeC i B o r x _ hil k1 h3 k2 h7)).2 j' o' r' y0 c2 m1 h4 m2 v2
                    · exact hp1.hr.apart i i' B o r o' r' x y ro ro' cs cs' hii k1 m1 h3 h4 k2 m2 h7 h8 h9
                · intro B o v e i o' r x cs h1 h2 h3 h4
                  rw [hfzE] at e
                  rcases hcls i _ x h1 h3 with ⟨j, x0, k1, k2, rfl, k4⟩ | ⟨hil, k1, k2⟩
                  · obtain ⟨c1, v1, _⟩ := view_ren h4
                    exact hpc.inv.hr.fza B o v e j o' r x0 c1 k1 h2 k2 v1
                  · have hB := hlt1 i B o' r x _ k1 h2 k2 h4
                    rcases hpc.fzn B o v e with e | e | e
                    · rw [hfz] at e
                      exact hp1.hr.fza B o v e i o' r x cs k1 h2 k2 h4
                    · omega
                    · exact e (hOutC i B o' r x cs hil k1 h2 k2 h4)
                · intro i hi
                  unfold upd
                  split
                  · rename_i hlt'
                    rw [List.getElem?_eq_getElem hlt']; simp
                  · rename_i hge
                    rw [if_neg (by omega)]
                    rw [hatO i (by omega)] at hi
                    have := hp1.hr.ent i hi
                    rwa [upd_ge (by omega)] at this
              refine ⟨u, ρ', rfl, ?_, Rel.ren hfzle0 v0 u (fun c _ x hx => hfwd c x hx) hv⟩
              have hHH : upd s' (upd s1 h) = upd s' h := upd_upd hls
              rw [hHH] at HRn hcls
              refine ⟨hp1.ext.trans hle1, fun i hi => ?_, rfl, HRn, upd_agree _ _, by omega, hpc.os, hpc.tape, hpc.output, hpc.size, fun B hB hF => ?_, fun B hB hF => ?_, fun B o v e => ?_, fun i hi hρ => ?_⟩
              · rcases Nat.lt_or_ge i s1.length with h1 | h1
                · rw [hatO i (.inl h1), hat1] at hi; exact absurd rfl hi
                · rcases Nat.lt_or_ge i s'.length with h2 | h2
                  · exact ⟨by omega, h2⟩
                  · rw [hatO i (.inr h2), hat1] at hi; exact absurd rfl hi
              · have f1 := (hp1.frame B hB hF).2
                obtain ⟨g1, g2⟩ := hpc.frame B hB (hFree0 B f1)
                refine ⟨g1, fun i o r x cs h1 h2 h3 h4 => ?_⟩
                rcases hcls i _ x h1 h3 with ⟨j, x0, k1, k2, rfl, k4⟩ | ⟨hil, k1, k2⟩
                · obtain ⟨c1, v1, _⟩ := view_ren h4
                  exact g2 j o r x0 c1 k1 h2 k2 v1
                · exact f1 i o r x cs k1 h2 k2 h4
              · have f1 := hp1.out B hB hF
                have g2 := hpc.out B hB (hOut0 B f1)
                intro i o r x v h1 h2 h3 h4
                rcases hcls i _ x h1 h3 with ⟨j, x0, k1, k2, rfl, k4⟩ | ⟨hil, k1, k2⟩
                · obtain ⟨c1, v1, _⟩ := view_ren h4
                  exact g2 j o r x0 _ k1 h2 k2 v1
                · exact f1 i o r x v k1 h2 k2 h4
              · rw [hfzE] at e
                rcases hpc.fzn B o v e with e | e | e
                · rw [hfz] at e
                  exact hp1.fzn B o v e
                · exact .inr (.inl e)
                · rcases Nat.lt_or_ge B w.heap.size with hB | hB
                  · exact .inr (.inr (fun hF => e (hOut0 B (hp1.out B hB hF))))
                  · exact .inr (.inl hB)
              · have hil : i ∉ l := fun hil => by
                  have := hreal i hil
                  rw [hat1] at this
                  exact this hρ
                rw [b3 i (by omega) hil]
                have := hp1.idle i hi hρ
                exact this
          · cases e
        · cases e
  exact ⟨fun g args s v s' tch e => (key g args s v s' tch e).1, fun g args s v s' tch e => (key g args s v s' tch e).2⟩
end Go.Sy
