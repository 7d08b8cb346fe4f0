/- append: the model's operation. -/
import Derived.Test.YtekedhfmdpbplaaDenJ
set_option linter.unusedSimpArgs false
set_option linter.unusedVariables false
namespace Go.Den
open Go

section
variable {P : Program} {ρ : Rho} {h : Hp} {w : World} {st : St}

/-- Where there is room. -/
theorem run_append_in {t u0 ty e0 : TypeId} {d : TypeDesc} {base : Option Addr} {sLen sCap m sz : Nat} {xu : Value} {news : List Value}
    (ht : P.underlying t = some (.slice e0)) (hu : P.underlying u0 = some d) (hd : ∀ k, d ≠ .int k) (hs : sizeA P e0 = some sz) (hl : ∀ w, (Builtin.lenOf xu).run P w = .ok m w)
    (hf : (Builtin.firstCells sz m xu).run P w = .ok news.toArray w) (hroom : sLen + m ≤ sCap) {w' : World}
    (hst : (match base with | some a => storeCells (a.add (sLen * sz)) news | none => pure () : Sem Unit).run P w = .ok () w') :
    (Builtin.append_ #[t, u0] ty #[.slice base sLen sCap, xu]).run P w = .ok (.slice base (sLen + m) sCap) w' := by
  have hz : (match d with | .int _ => true | _ => false) = false := by cases d <;> first | rfl | exact absurd rfl (hd _)
  cases base with
  | none =>
    simp only [Sem.run_pure, Result.ok.injEq, true_and] at hst
    subst hst
    simp [Builtin.append_, run_underlying ht, run_underlying hu, run_sizeA hs, hz, hl, hroom, hf]
  | some a =>
    simp only at hst
    simp [Builtin.append_, run_underlying ht, run_underlying hu, run_sizeA hs, hz, hl, hroom, hf, hst]

/-- Where there is none: a new array. -/
theorem run_append_out {t u0 ty e0 : TypeId} {d : TypeDesc} {base : Option Addr} {sLen sCap m sz by_ : Nat} {xu : Value} {olds news : List Value} {z : AV}
    (ht : P.underlying t = some (.slice e0)) (hu : P.underlying u0 = some d) (hd : ∀ k, d ≠ .int k) (hs : sizeA P e0 = some sz) (hby : bytesA P e0 = some by_) (hz0 : zeroA P e0 = some z) (hzl : z.cells.length = sz)
    (hl : ∀ w, (Builtin.lenOf xu).run P w = .ok m w)
    (ho' : (Builtin.firstCells sz sLen (.slice base sLen sCap)).run P w.drew = .ok olds.toArray w.drew)
    (hf' : (Builtin.firstCells sz m xu).run P w.drew = .ok news.toArray w.drew)
    (hno : ¬ sLen + m ≤ sCap) (hb0 : 0 < by_) (hbytes : (3 * (sLen + m) + 2000) * by_ ≤ 281474976710656) :
    ∃ newCap rest, sLen + m ≤ newCap ∧ rest.length = (newCap - (sLen + m)) * sz ∧
      (Builtin.append_ #[t, u0] ty #[.slice base sLen sCap, xu]).run P w = .ok (.slice (some ⟨w.heap.size, 0, none⟩) (sLen + m) newCap) (w.drew.alloc (.cells (olds ++ news ++ rest).toArray e0)) := by
  have hz : (match d with | .int _ => true | _ => false) = false := by cases d <;> first | rfl | exact absurd rfl (hd _)
  obtain ⟨zv, hzr, hrel⟩ := run_zeroA hz0 (fun _ => none)
  have hzs := hrel.cells.length
  simp only [Array.length_toList] at hzs
  obtain ⟨i, hi, hib⟩ := run_bytesA hby
  have hti : ∀ w, (typeInfo e0).run P w = .ok i w := fun w => by simp [typeInfo, hi]
  have hcapge : sLen + m ≤ grownCap w (sLen + m) sCap e0 := grownCap_ge w _ _ _
  have hnx : ¬ Builtin.nextslicecap (sLen + m) sCap * i.bytes > 2 ^ 48 := by
    have h1 := nextslicecap_le (need := sLen + m) (old := sCap) (by omega)
    have h2 : Builtin.nextslicecap (sLen + m) sCap * i.bytes ≤ (3 * (sLen + m) + 2000) * by_ := by
      rw [hib]; exact Nat.mul_le_mul_right _ (by omega)
    omega
  have hcond : ¬ (((sLen + m : Nat) : Int) > IntKind.i64.max ∧ (false = true ∨ i.bytes = 0)) := fun hc => by
    rcases hc.2 with q | q
    · cases q
    · omega
  have hb00 : ¬ i.bytes = 0 := by omega
  have hrest : ∃ rest : List Value, Builtin.zeroCells zv.cells (grownCap w (sLen + m) sCap e0 - (sLen + m)) = rest.toArray ∧ rest.length = (grownCap w (sLen + m) sCap e0 - (sLen + m)) * sz := by
    refine ⟨(Builtin.zeroCells zv.cells (grownCap w (sLen + m) sCap e0 - (sLen + m))).toList, by simp, ?_⟩
    rw [Array.length_toList, size_zeroCells, hzs, hzl]
  obtain ⟨rest, hr1, hr2⟩ := hrest
  refine ⟨grownCap w (sLen + m) sCap e0, rest, hcapge, hr2, ?_⟩
  have hforced : (Question.appendCap (sLen + m) sCap e0).forced = false := rfl
  simp only [Builtin.append_, List.getElem?_toArray, List.getElem?_cons_zero, List.getElem?_cons_succ, Sem.run_bind, run_underlying ht, run_underlying hu, Result.andThen_ok, run_sizeA hs, Sem.run_pure, hz, Bool.false_eq_true, if_false, hl, if_neg hno, hti]
  simp only [Bool.not_false, if_true, Sem.run_ite, if_neg hcond, if_neg hnx, Sem.run_bind, run_choose, hforced, Bool.false_eq_true, if_false, Result.andThen_ok, run_askRoom, hti, World.drew_eq]
  rw [show ((Question.appendCap (sLen + m) sCap e0).cut (w.tape w.drawn (.appendCap (sLen + m) sCap e0))) = grownCap w (sLen + m) sCap e0 from rfl]
  simp only [ho', hf', Result.andThen_ok, hzr, hr1, newRow, Sem.run_bind, run_newObj, Sem.run_pure, World.size_drew]
  simp [World.alloc_eq, hb00]
  rfl

theorem append_sound (hr : HR ρ h w) (ha : Agree st h) {e0 t u0 ty : TypeId} {d : TypeDesc} {s x v : AV} {su xu : Value} {st' : St} (ht : P.underlying t = some (.slice e0)) (hu : P.underlying u0 = some d) (hd : ∀ k, d ≠ .int k)
    (e : appendA P st e0 s x = some (v, st')) (hs : Rel ρ s su) (hx : Rel ρ x xu) (hf : Fresh ρ h st st') :
    ∃ r w' ρ', (Builtin.append_ #[t, u0] ty #[su, xu]).run P w = .ok r w' ∧ Post ρ h w st ρ' (upd st' h) w' st' ∧ Rel ρ' v r := by
  unfold appendA at e
  split at e
  · rename_i a len cap sz by_ m hsz hby hm
    have hlen := lenOf_sound (P := P) hm hx
    split at e
    · cases e
    · rename_i hchk
      simp only [Bool.and_eq_true] at hchk
      have hb0 : 0 < by_ := by simpa [Nat.blt_eq] using hchk.1
      have hbytes := Nat.le_of_ble_eq_true hchk.2
      split at e
      · cases e
      · rename_i new hnew
        split at e
        · cases e
        · rename_i hnl
          simp only [Bool.and_eq_true] at hnl
          have hnl' := beq_true_eq hnl.1
          have hnsc := hnl.2
          obtain ⟨news, hnrel, hnrun⟩ := source_sound (P := P) hr ha hnew hx
          have hnlen := hnrel.length
          split at e
          · rename_i hroom
            -- there is room
            cases a with
            | none =>
              cases e
              have hs' := hs
              simp only [Rel] at hs
              obtain ⟨rfl, rfl, rfl⟩ := hs
              have hm0 : m = 0 := by
                have := Nat.le_of_ble_eq_true hroom
                omega
              subst hm0
              refine ⟨.slice none 0 0, w, ρ, ?_, by rw [upd_self ha]; exact Post.refl hr ha, by simp [Rel]⟩
              exact run_append_in ht hu hd hsz hlen hnrun (Nat.le_refl 0) rfl
            | some p =>
              obtain ⟨b, off⟩ := p
              simp only at e
              -- the real slice
              have hreal : ∃ B o r c, ρ b = some (B, o, r) ∧ len + m ≤ c ∧ ((su = .slice (some ⟨B, o + off, none⟩) len c ∧ Rel ρ (.sl (some (b, off)) (len + m) cap) (.slice (some ⟨B, o + off, none⟩) (len + m) c)) ∨
                  (c = 0 ∧ len = 0 ∧ ∃ y, su = .slice (some ⟨B, y, none⟩) 0 0 ∧ Rel ρ (.sl (some (b, off)) (len + m) cap) (.slice (some ⟨B, y, none⟩) 0 0))) := by
                cases cap with
                | known c =>
                  simp only [Rel] at hs
                  obtain ⟨B, o, r, h1, h2, rfl⟩ := hs
                  have hle := Nat.le_of_ble_eq_true hroom
                  exact ⟨B, o, r, c, h1, hle, .inl ⟨rfl, by simp only [Rel]; exact ⟨B, o, r, h1, hle, rfl⟩⟩⟩
                | more lb s' =>
                  simp only [Rel] at hs
                  obtain ⟨B, o, r, c, h1, h2, h3, h4, h5⟩ := hs
                  simp only [Bool.and_eq_true] at hroom
                  have hle := Nat.le_of_ble_eq_true hroom.2
                  refine ⟨B, o, r, c, h1, by omega, ?_⟩
                  rcases h5 with rfl | ⟨rfl, y, rfl⟩
                  · exact .inl ⟨rfl, by simp only [Rel]; exact ⟨B, o, r, c, h1, hle, h3, h4, .inl rfl⟩⟩
                  · refine .inr ⟨rfl, by omega, y, rfl, ?_⟩
                    simp only [Rel]
                    exact ⟨B, o, r, 0, h1, hle, h3, h4, .inr ⟨rfl, y, rfl⟩⟩
              obtain ⟨B, o, r, c, hρ, hle, hreal⟩ := hreal
              split at e
              · cases e
                have hn0 : news = [] := by simpa using hnlen
                subst hn0
                rcases hreal with ⟨rfl, hq⟩ | ⟨rfl, rfl, y, rfl, hq⟩
                · refine ⟨_, w, ρ, ?_, by rw [upd_self ha]; exact Post.refl hr ha, hq⟩
                  exact run_append_in ht hu hd hsz hlen hnrun hle (by simp [storeCells])
                · obtain rfl : m = 0 := by omega
                  refine ⟨_, w, ρ, ?_, by rw [upd_self ha]; exact Post.refl hr ha, hq⟩
                  exact run_append_in ht hu hd hsz hlen hnrun (Nat.le_refl 0) (by simp [storeCells])
              · rename_i hne
                split at e
                · rename_i st1 hw
                  cases e
                  obtain ⟨h1, h2, h3⟩ := write_sound (P := P) hr ha hρ hw hnrel
                  rcases hreal with ⟨rfl, hq⟩ | ⟨rfl, rfl, y, rfl, hq⟩
                  · refine ⟨_, _, ρ, run_append_in ht hu hd hsz hlen hnrun hle (w' := w.setCells B (o + (off + len * sz)) news) ?_, h2, hq⟩
                    simp only [Addr.add_lit]
                    rw [show o + off + len * sz = o + (off + len * sz) by omega]
                    exact h1
                  · exfalso
                    obtain rfl : m = 0 := by omega
                    rw [Nat.zero_mul] at hnl'
                    exact hne (List.eq_nil_of_length_eq_zero hnl')
                · cases e
          · rename_i hroom
            split at e
            · -- a new array, surely
              rename_i c
              split at e
              · cases e
              · rename_i old hold
                split at e
                · cases e
                · rename_i z hz
                  split at e
                  · rename_i hzb
                    simp only [Bool.and_eq_true] at hzb
                    have hzl := beq_true_eq hzb.1
                    have hol := beq_true_eq hzb.2
                    cases e
                    have hno : ¬ len + m ≤ c := fun e => by
                      have hroom' : Nat.ble (len + m) c = false := hroom
                      rw [Nat.ble_eq_true_of_le e] at hroom'; cases hroom'
                    have hsu : ∃ base, su = .slice base len c := by
                      rcases a with _ | ⟨_, _⟩ <;> simp only [Rel] at hs
                      · obtain ⟨rfl, e2, e3⟩ := hs; cases e2; exact ⟨_, e3⟩
                      · obtain ⟨B, o, r, _, _, e3⟩ := hs; exact ⟨_, e3⟩
                    obtain ⟨base, rfl⟩ := hsu
                    obtain ⟨olds, horel, horun⟩ := source_sound (P := P) (w := w.drew) (hr.drew (w.drawn + 1)) ha hold hs
                    obtain ⟨news, hnrel, hnrun⟩ := source_sound (P := P) (w := w.drew) (hr.drew (w.drawn + 1)) ha hnew hx
                    have holen := horel.length
                    have hnlen := hnrel.length
                    obtain ⟨newCap, rest, hc1, hc2, hrun⟩ := run_append_out (ty := ty) (w := w) (olds := olds) (news := news) ht hu hd hsz hby hz hzl hlen horun hnrun hno hb0 hbytes
                    have hP := newOpen_Post (ty := e0) (rest := rest) (hr.drew (w.drawn + 1)) ha hf (horel.append hnrel)
                    refine ⟨_, _, _, hrun, hP.from_drew, ?_⟩
                    simp only [Rel]
                    refine ⟨w.heap.size, 0, _, newCap, by simp; rfl, Nat.le_refl _, hc1, ?_, .inl rfl⟩
                    simp only [List.length_append, holen, hol, hnlen, hnl', hc2]
                    have : (len + m) * sz + (newCap - (len + m)) * sz = newCap * sz := by rw [← Nat.add_mul]; congr 1; omega
                    rw [Nat.add_mul] at this
                    omega
                  · cases e
            · -- there may be room
              rename_i lb s'
              split at e
              · rename_i b off hsb
                have hsb' := beq_true_eq hsb
                subst hsb'
                split at e
                · rename_i r0 base cs hb
                  split at e
                  · rename_i ms old z hms hold hz
                    split at e
                    · cases e
                    · rename_i hzb
                      have hzl := beq_true_eq hzb
                      generalize hp : poison st.n (base + off + len * s') (base + off + len * s' + m * s') ms st.h = q at e
                      obtain ⟨ms', g⟩ := q
                      simp only [Option.some.injEq, Prod.mk.injEq] at e
                      obtain ⟨rfl, rfl⟩ := e
                      have F := forked_of (new := old ++ new) ha hb hms hp
                      have hbn := St.get_lt ha hb
                      have hhb : h b = some (.cells false (some (r0, base)) cs) := by rw [ha.eq b hbn]; exact hb
                      have hsl := hs
                      simp only [Rel] at hs
                      obtain ⟨B, o, room, c, hρ, h2, h3, h4, h5⟩ := hs
                      have H := hr.cell b B o room false _ cs hρ hhb
                      obtain ⟨hle0, hol⟩ := readL_some hold
                      have hol' := readL_length hold
                      have hnot : ¬ len + m ≤ lb := fun e => by
                        have hroom' : (Nat.beq s' s' && Nat.ble (len + m) lb) = false := hroom
                        rw [Nat.ble_eq_true_of_le e, hsb] at hroom'
                        cases hroom'
                      by_cases hin : len + m ≤ c
                      · -- in place
                        rcases h5 with rfl | ⟨rfl, y, rfl⟩
                        · obtain ⟨us, hus1, hus2⟩ := H.vals
                          have husl := hus1.length
                          have hHf := H.fit
                          have hspace : off + len * s' + m * s' ≤ room := by
                            have : (len + m) * s' ≤ c * s' := Nat.mul_le_mul_right _ hin
                            rw [Nat.add_mul] at this
                            omega
                          have hvl : news.length = m * s' := by omega
                          have hone : ∀ v ∈ news, v.oneCell' = true := hnrel.oneCell hnsc
                          have hstore : (storeCells ⟨B, o + (off + len * s'), none⟩ news).run P w = .ok () (w.setCells B (o + (off + len * s')) news) := by
                            have := run_storeCells_cells (P := P) B (o + (off + len * s')) news 0 w
                              (fun j hj => by rw [show o + (off + len * s') + 0 + j = o + (off + len * s' + j) by omega]; exact H.there _ (by omega))
                              (fun j hj => by rw [show o + (off + len * s') + 0 + j = o + (off + len * s' + j) by omega]; exact H.free rfl _ (by omega)) hone
                            simpa using this
                          have henv := setCells_env B news (o + (off + len * s')) w
                          have hP := forked_Post (w' := w.setCells B (o + (off + len * s')) news) (x := (B, o + off, room - off)) hr ha hf F hb hρ henv.1 henv.2.1 henv.2.2 (by rw [setCells_size]; exact Nat.le_refl _)
                            (fun k hk hkB => setCells_heap_other _ _ _ _ _ hkB)
                            (fun ρ' hle => by
                              refine ⟨by simp [hol', hnl']; omega, by rw [setCells_size]; exact H.lt, ⟨(us.drop off).take (len * s') ++ news, ?_, ?_⟩, ?_, ?_⟩
                              · rw [hol]
                                exact Rels.mono hle _ _ (((hus1.drop off).take _).append hnrel)
                              · intro i v hi
                                have hlt := (List.getElem?_eq_some_iff.1 hi).1
                                have htl : ((us.drop off).take (len * s')).length = len * s' := by simp; omega
                                by_cases hil : i < len * s'
                                · rw [List.getElem?_append_left (by omega), List.getElem?_take, if_pos hil, List.getElem?_drop] at hi
                                  rw [World.cell?_setCells_out _ _ _ _ _ (fun _ _ => by left; simp only; omega)]
                                  have := hus2 (off + i) v hi
                                  rw [show o + off + i = o + (off + i) by omega]; exact this
                                · rw [List.getElem?_append_right (by omega), htl] at hi
                                  have hj := (List.getElem?_eq_some_iff.1 hi).1
                                  have := World.cell?_setCells_in B news (o + (off + len * s')) w (fun j hj' => by rw [show o + (off + len * s') + j = o + (off + len * s' + j) by omega]; exact H.there _ (by omega)) (i - len * s') hj
                                  rw [show o + (off + len * s') + (i - len * s') = o + off + i by omega] at this
                                  simp only
                                  rw [this]
                                  rw [List.getElem?_eq_getElem hj] at hi
                                  exact hi
                              · intro j hj
                                simp only at hj ⊢
                                refine setCells_isSome _ _ _ _ _ ?_
                                rw [show o + off + j = o + (off + j) by omega]
                                exact H.there _ (by omega)
                              · intro _ j hj
                                simp only at hj ⊢
                                rw [World.frozen?_setCells, show o + off + j = o + (off + j) by omega]
                                exact H.free rfl _ (by omega))
                            (.inr ⟨rfl, rfl⟩)
                            (fun i B' o' r' ro f c' h1 h6 hi hd H' => H'.beside (fun hB => by
                              obtain ⟨b', _, e2, e3⟩ := hd hB.symm
                              omega))
                          refine ⟨_, _, _, run_append_in ht hu hd hsz hlen hnrun hin (by simp only [Addr.add_lit]; rw [show o + off + len * s' = o + (off + len * s') by omega]; exact hstore), hP, ?_⟩
                          simp only [Rel]
                          refine ⟨B, o + off, room - off, c, by simp, Nat.le_refl _, hin, ?_, .inl (by simp)⟩
                          have : off + c * s' ≤ room := h4
                          omega
                        · omega
                      · -- a new array
                        have hsu : ∃ bs, su = .slice bs len c := by
                          rcases h5 with rfl | ⟨rfl, y, rfl⟩
                          · exact ⟨_, rfl⟩
                          · obtain rfl : len = 0 := by omega
                            exact ⟨_, rfl⟩
                        obtain ⟨bs, rfl⟩ := hsu
                        have hsrc : sourceA st s' len (.sl (some (b, off)) len (.more lb s')) = some old := by
                          unfold sourceA
                          simp only [Nat.ble_eq_true_of_le (Nat.le_refl len)]
                          rw [St.read_of hbn hb]
                          exact hold
                        obtain ⟨olds, horel, horun⟩ := source_sound (P := P) (w := w.drew) (hr.drew (w.drawn + 1)) ha hsrc hsl
                        obtain ⟨news, hnrel, hnrun⟩ := source_sound (P := P) (w := w.drew) (hr.drew (w.drawn + 1)) ha hnew hx
                        have holen := horel.length
                        have hnlen := hnrel.length
                        obtain ⟨newCap, rest, hc1, hc2, hrun⟩ := run_append_out (ty := ty) (w := w) (olds := olds) (news := news) ht hu hd hsz hby hz hzl hlen horun hnrun hin hb0 hbytes
                        have hP := forked_Post (w := w.drew) (w' := w.drew.alloc (.cells (olds ++ news ++ rest).toArray e0)) (x := (w.heap.size, 0, (olds ++ news).length + rest.length)) (hr.drew (w.drawn + 1)) ha hf F hb hρ rfl rfl rfl (by simp)
                          (fun k hk _ => heap_alloc_old _ _ _ hk)
                          (fun ρ' hle => by
                            refine ⟨by show (old ++ new).length ≤ (olds ++ news).length + rest.length; rw [(horel.append hnrel).length]; omega, by simp, ⟨olds ++ news, Rels.mono hle _ _ (horel.append hnrel), fun i v hi => ?_⟩, fun j hj => ?_, fun _ j hj => ?_⟩
                            · simp only
                              have := World.cell?_alloc_new w.drew (olds ++ news ++ rest).toArray e0 (0 + i)
                              rw [show w.drew.heap.size = w.heap.size from rfl] at this
                              rw [this]
                              simp only [Nat.zero_add, List.getElem?_toArray]
                              rw [List.getElem?_append_left (List.getElem?_eq_some_iff.1 hi).1]
                              exact hi
                            · simp only at hj ⊢
                              have := World.cell?_alloc_new w.drew (olds ++ news ++ rest).toArray e0 (0 + j)
                              rw [show w.drew.heap.size = w.heap.size from rfl] at this
                              rw [this]
                              simp only [Nat.zero_add, List.getElem?_toArray]
                              rw [List.getElem?_eq_getElem (by rw [List.length_append]; omega)]
                              rfl
                            · exact World.frozen?_alloc_new w.drew _ _ _)
                          (.inl (Nat.le_refl _))
                          (fun i B' o' r' ro f c' h1 h6 hi hd H' => rel_of_le (fun _ _ e => e) H' (by simp) (heap_alloc_old _ _ _ H'.lt))
                        refine ⟨_, _, _, hrun, hP.from_drew, ?_⟩
                        simp only [Rel]
                        refine ⟨w.heap.size, 0, _, newCap, by simp; rfl, Nat.le_refl _, hc1, ?_, .inl rfl⟩
                        simp only [List.length_append, holen, hol', hnlen, hnl', hc2]
                        have : (len + m) * s' + (newCap - (len + m)) * s' = newCap * s' := by rw [← Nat.add_mul]; congr 1; omega
                        rw [Nat.add_mul] at this
                        omega
                  · cases e
                · cases e
              · cases e
  · cases e
end

end Go.Den
