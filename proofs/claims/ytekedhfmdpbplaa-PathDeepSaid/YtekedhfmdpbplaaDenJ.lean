/- append. -/
import Derived.Test.YtekedhfmdpbplaaDenI
set_option linter.unusedSimpArgs false
set_option linter.unusedVariables false
namespace Go.Den
open Go

section
variable {P : Program} {ρ : Rho} {h : Hp} {w : World} {st : St}

/-- A new number for a new block with room behind it. -/
theorem newOpen_Post (hr : HR ρ h w) (ha : Agree st h) {cs : List AV} {vs rest : List Value} {ty : TypeId} (hf : Fresh ρ h st (st.newOpen cs)) (hrel : Rels ρ cs vs) :
    Post ρ h w st (fun i => if i = st.n then some (w.heap.size, 0, vs.length + rest.length) else ρ i) (upd (st.newOpen cs) h) (w.alloc (.cells (vs ++ rest).toArray ty)) (st.newOpen cs) := by
  have hget : ∀ id, (st.newOpen cs).get id = if st.n + 1 = id then some (.fam [st.n]) else if st.n = id then some (.cells false (some (st.n + 1, 0)) cs) else st.get id := fun id => by
    show ((st.h.set st.n _).set (st.n + 1) _).get id = _
    rw [Tr.get_set, Tr.get_set]; rfl
  have hρn : ρ st.n = none := hf.none st.n (Nat.le_refl _) (by simp [St.newOpen])
  have hg := hr.grow ha hf (by simp [St.newOpen]) (fun id hid => by rw [hget, if_neg (by omega), if_neg (by omega)])
  have hA := alloc_HR hg (id := st.n) (cs := cs) (vs := vs) (rest := rest) (e := ty) (fam := some (st.n + 1, 0)) hρn (by unfold upd; rw [if_pos (by simp [St.newOpen]), hget, if_neg (by omega), if_pos rfl]) hrel
    (fun rt b e => by cases e; exact ⟨[st.n], by unfold upd; rw [if_pos (by simp [St.newOpen]), hget, if_pos rfl], rfl⟩)
  refine ⟨fun i x e => ?_, fun id e => ?_, rfl, hA, ⟨fun id hid => by unfold upd; rw [if_pos hid], fun id hid => ?_, fun i ro rt b c hc => ?_, fun rt ms hms m hm => ?_⟩, by simp [St.newOpen], rfl, rfl, rfl, by simp, fun B hB hf' => ⟨heap_alloc_old w _ _ hB, fun id o r e => ?_⟩, fun id hid _ _ => by rw [hget, if_neg (by omega), if_neg (by omega)]⟩
  · rw [if_neg (fun e' => by rw [e', hρn] at e; cases e)]; exact e
  · split at e
    · rename_i hi; subst hi; exact ⟨Nat.le_refl _, by simp [St.newOpen]⟩
    · exact absurd rfl e
  · simp only [St.newOpen] at hid
    rw [hget, if_neg (by omega), if_neg (by omega)]
    exact ha.wf id (by omega)
  · rw [hget] at hc
    split at hc
    · cases hc
    · split at hc
      · cases hc; simp [St.newOpen]
      · have := ha.ref i ro rt b c hc; simp [St.newOpen]; omega
  · rw [hget] at hms
    split at hms
    · cases hms; simp at hm; subst hm; simp [St.newOpen]
    · split at hms
      · cases hms
      · have := ha.mem rt ms hms m hm; simp [St.newOpen]; omega
  · simp only at e
    split at e
    · simp only [Option.some.injEq, Prod.mk.injEq] at e; omega
    · rename_i hne
      obtain ⟨f, c, hc⟩ := hf' id o r e
      refine ⟨f, c, ?_⟩
      have hn1 : ¬ st.n + 1 = id := fun ei => by
        have := hf.none id (by omega) (by simp [St.newOpen]; omega)
        rw [this] at e; cases e
      unfold upd
      split
      · rename_i hlt
        simp only [St.newOpen] at hlt
        rw [hget, if_neg hn1, if_neg (fun e => hne e.symm), ← ha.eq id (by omega)]
        exact hc
      · exact hc

/-- append on a slice that may have room: what the abstract machine lays. -/
structure Forked (st : St) (b r base off k m sz : Nat) (new : List AV) (st' : St) : Prop where
  n : st'.n = st.n + 1
  mine : st'.get st.n = some (.cells false (some (r, base + off)) new)
  other : ∀ i, i ≠ st.n → (st'.get i = st.get i) ∨ (∃ ms ms', st.get r = some (.fam ms) ∧ i = r ∧ st'.get i = some (.fam ms')) ∨
    (∃ ms, st.get r = some (.fam ms) ∧ i ∈ ms ∧ st'.get i = some .dead ∧ ∃ ro x c, st.get i = some (.cells ro (some x) c))
  fam : ∃ ms ms', st.get r = some (.fam ms) ∧ st'.get r = some (.fam (st.n :: ms')) ∧ (∀ m, m ∈ ms' → m ∈ ms) ∧
    ∀ x, x ∈ ms → ∀ ro rt' base' c, st'.get x = some (.cells ro (some (rt', base')) c) → x ∈ ms' ∧ (base + off + k * sz + m * sz ≤ base' ∨ base' + c.length ≤ base + off + k * sz)

theorem forked_of {h : Hp} (ha : Agree st h) {b r base off k m sz : Nat} {cs new : List AV} {ms ms' : List Nat} {g : Tr Ent} (hb : st.get b = some (.cells false (some (r, base)) cs)) (hms : st.get r = some (.fam ms))
    (hp : poison st.n (base + off + k * sz) (base + off + k * sz + m * sz) ms st.h = (ms', g)) :
    Forked st b r base off k m sz new { h := (g.set r (.fam (st.n :: ms'))).set st.n (.cells false (some (r, base + off)) new), n := st.n + 1 } := by
  have PS := poison_spec _ _ _ _ _ _ _ hp
  have hrn := St.get_lt ha hms
  have hne : r ≠ st.n := by omega
  have hnot : ∀ x, x ∈ ms → x ≠ st.n := fun x hx => by have := ha.mem r ms hms x hx; omega
  refine ⟨rfl, by show Tr.get _ _ = _; rw [Tr.get_set, if_pos rfl], fun i hi => ?_, ms, ms', hms, ?_, PS.sub, fun x hx ro rt' base' c hg => ?_⟩
  · show (Tr.get _ i = _) ∨ (∃ _ _, _ ∧ _ ∧ Tr.get _ i = _) ∨ (∃ _, _ ∧ _ ∧ Tr.get _ i = _ ∧ _)
    rw [Tr.get_set, if_neg (fun e => hi e.symm), Tr.get_set]
    by_cases hir : i = r
    · subst hir
      rw [if_pos rfl]
      exact .inr (.inl ⟨ms, _, hms, rfl, rfl⟩)
    · rw [if_neg (fun e => hir e.symm)]
      rcases PS.same i with e | ⟨e1, e2, e3, e4⟩
      · exact .inl e
      · exact .inr (.inr ⟨ms, hms, e2, e1, e4⟩)
  · show Tr.get _ r = _
    rw [Tr.get_set, if_neg (fun e => hne e.symm), Tr.get_set, if_pos rfl]
  · have hg' : Tr.get _ x = _ := hg
    rw [Tr.get_set, if_neg (fun e => hnot x hx e.symm), Tr.get_set] at hg'
    split at hg'
    · cases hg'
    · exact PS.keep x hx (hnot x hx) ro rt' base' c hg'

/-- All that 'Post' asks of the abstract side of such an append, and of the blocks that were there. -/
theorem forked_Post {st' : St} {b r base off k m sz B o room : Nat} {cs new : List AV} {w' : World} {x : Nat × Nat × Nat} (hr : HR ρ h w) (ha : Agree st h) (hf : Fresh ρ h st st') (F : Forked st b r base off k m sz new st')
    (hb : st.get b = some (.cells false (some (r, base)) cs)) (hρ : ρ b = some (B, o, room))
    (hos : w'.os = w.os) (htape : w'.tape = w.tape) (hout : w'.output = w.output) (hsize : w.heap.size ≤ w'.heap.size)
    (hblocks : ∀ k, k < w.heap.size → k ≠ B → w'.heap[k]? = w.heap[k]?)
    (hnew : ∀ ρ', ρ.le ρ' → Holds ρ' w' x.1 x.2.1 x.2.2 false new)
    (hplace : w.heap.size ≤ x.1 ∨ (x.1 = B ∧ x.2.1 = o + off))
    (hold : ∀ i B' o' r' ro f c, ρ i = some (B', o', r') → st'.get i = some (.cells ro f c) → i < st.n → (B' = B → ∃ b', f = some (r, b') ∧ o' + base = o + b' ∧ (base + off + k * sz + m * sz ≤ b' ∨ b' + c.length ≤ base + off + k * sz)) → Holds ρ w B' o' r' ro c → Holds ρ w' B' o' r' ro c) :
    Post ρ h w st (fun i => if i = st.n then some x else ρ i) (upd st' h) w' st' := by
  have hn := F.n
  have hρn : ρ st.n = none := hf.none st.n (Nat.le_refl _) (by omega)
  have hbn := St.get_lt ha hb
  obtain ⟨ms, ms', f1, f2, f3, f4⟩ := F.fam
  have hrn := St.get_lt ha f1
  have hhb : h b = some (.cells false (some (r, base)) cs) := by rw [ha.eq b hbn]; exact hb
  obtain ⟨ρ', hρ'⟩ : ∃ ρ' : Rho, ρ' = fun i => if i = st.n then some x else ρ i := ⟨_, rfl⟩
  rw [← hρ']
  have hnewρ : ρ' st.n = some x := by rw [hρ']; simp
  have holdρ : ∀ i, i ≠ st.n → ρ' i = ρ i := fun i hi => by rw [hρ']; simp [hi]
  have hle : ρ.le ρ' := fun i y e => by rw [holdρ i (fun ei => by rw [ei, hρn] at e; cases e)]; exact e
  have hupd : ∀ i, i < st'.n → upd st' h i = st'.get i := fun i hi => by unfold upd; rw [if_pos hi]
  have hupd2 : ∀ i, ¬ i < st'.n → upd st' h i = h i := fun i hi => by unfold upd; rw [if_neg hi]
  have old : ∀ i ro f c, i ≠ st.n → upd st' h i = some (.cells ro f c) → h i = some (.cells ro f c) := fun i ro f c hi e => by
    by_cases hin : i < st'.n
    · rw [hupd i hin] at e
      have hin' : i < st.n := by omega
      rcases F.other i hi with q | ⟨_, _, _, _, q⟩ | ⟨_, _, _, q, _⟩
      · rw [ha.eq i hin', ← q]; exact e
      · rw [q] at e; cases e
      · rw [q] at e; cases e
    · rw [hupd2 i hin] at e; exact e
  have far : ∀ i, ρ i ≠ none → ¬ i < st.n → ∀ ro y c, h i ≠ some (.cells ro (some y) c) := fun i hi hnl => by
    rcases Nat.lt_or_ge i st'.n with q | q
    · exact absurd (hf.none i (by omega) q) hi
    · exact hf.far i q hi
  -- of the old ones: which lie in that block
  have hshare : ∀ i B' o' r' ro f c, ρ i = some (B', o', r') → h i = some (.cells ro f c) → B' = B → ∃ b', f = some (r, b') ∧ o' + base = o + b' := fun i B' o' r' ro f c h1 h2 hB => by
    by_cases hib : i = b
    · subst hib
      rw [hρ] at h1; cases h1
      rw [hhb] at h2; cases h2
      exact ⟨base, rfl, rfl⟩
    · subst hB
      obtain ⟨rt, b1, b2, e1, e2, e3⟩ := hr.apart i b B' o' r' o room ro false f _ c cs hib h1 hρ h2 hhb (.inr rfl)
      simp only [Option.some.injEq, Prod.mk.injEq] at e2
      obtain ⟨rfl, rfl⟩ := e2
      exact ⟨b1, e1, e3⟩
  have hfams : ∀ i B' o' r' ro b' c, ρ i = some (B', o', r') → h i = some (.cells ro (some (r, b')) c) → i ∈ ms := fun i B' o' r' ro b' c h1 h2 => by
    obtain ⟨_, ms0, q1, q2, q3⟩ := hr.fam i r b' _ ro c h1 h2
    rw [ha.eq r hrn, f1] at q1; cases q1
    exact q2
  refine ⟨hle, fun id e => ?_, rfl, ⟨?_, ?_, ?_, ?_⟩, ⟨fun id hid => hupd id hid, fun id hid => ?_, fun i ro rt b1 c hc => ?_, fun rt ms1 hms m1 hm => ?_⟩, by omega, hos, htape, hout, hsize, fun B1 hB1 hfree => ?_, fun id hid hρi hnf => ?_⟩
  · by_cases hid : id = st.n
    · subst hid; exact ⟨Nat.le_refl _, by omega⟩
    · exact absurd (holdρ id hid) e
  · intro i B' o' r' ro f c h1 h2
    by_cases hi : i = st.n
    · subst hi
      rw [hnewρ] at h1
      simp only [Option.some.injEq] at h1
      subst h1
      rw [hupd _ (by omega), F.mine] at h2
      cases h2
      exact hnew ρ' hle
    · rw [holdρ i hi] at h1
      have h3 := old i ro f c hi h2
      have H := hr.cell i B' o' r' ro f c h1 h3
      by_cases hin : i < st.n
      · rw [hupd i (by omega)] at h2
        have := hold i B' o' r' ro f c h1 h2 hin (fun hB => by
          obtain ⟨b', rfl, e2⟩ := hshare i B' o' r' ro f c h1 h3 hB
          have hm := hfams i B' o' r' ro b' c h1 h3
          exact ⟨b', rfl, e2, (f4 i hm ro r b' c h2).2⟩) H
        exact ⟨this.fit, this.lt, (let ⟨vs, a1, a2⟩ := this.vals; ⟨vs, Rels.mono hle _ _ a1, a2⟩), this.there, this.free⟩
      · have hB : B' ≠ B := fun hB => by
          obtain ⟨b', rfl, _⟩ := hshare i B' o' r' ro f c h1 h3 hB
          exact far i (by rw [h1]; simp) hin ro _ c h3
        exact rel_of_le hle H hsize (hblocks B' H.lt hB)
  · intro i j B' o1 r1 o2 r2 ro1 ro2 g1 g2 c1 c2 hij h1 h2 h3 h4 h5
    have one : ∀ j o2 r2 ro2 g2 c2 (B' o1 r1 : Nat), j ≠ st.n → ρ' st.n = some (B', o1, r1) → ρ j = some (B', o2, r2) → h j = some (.cells ro2 g2 c2) → ∃ b', g2 = some (r, b') ∧ o1 + b' = o2 + (base + off) := fun j o2 r2 ro2 g2 c2 B' o1 r1 hj q1 q2 q3 => by
      rw [hnewρ] at q1
      simp only [Option.some.injEq] at q1
      subst q1
      rcases hplace with q | ⟨q, q'⟩
      · have := (hr.cell j _ o2 r2 ro2 g2 c2 q2 q3).lt
        simp only at q this
        omega
      · simp only at q q'
        obtain ⟨b', e1, e2⟩ := hshare j _ o2 r2 ro2 g2 c2 q2 q3 q
        exact ⟨b', e1, by omega⟩
    by_cases hi : i = st.n
    · subst hi
      have hj : j ≠ st.n := fun e => hij e.symm
      rw [holdρ j hj] at h2
      have h6 := old j ro2 g2 c2 hj h4
      rw [hupd _ (by omega), F.mine] at h3
      cases h3
      obtain ⟨b', e1, e2⟩ := one j o2 r2 ro2 g2 c2 B' o1 r1 hj h1 h2 h6
      exact ⟨r, base + off, b', rfl, e1, e2⟩
    · by_cases hj : j = st.n
      · subst hj
        rw [holdρ i hi] at h1
        have h6 := old i ro1 g1 c1 hi h3
        rw [hupd _ (by omega), F.mine] at h4
        cases h4
        obtain ⟨b', e1, e2⟩ := one i o1 r1 ro1 g1 c1 B' o2 r2 hi h2 h1 h6
        exact ⟨r, b', base + off, e1, rfl, by omega⟩
      · rw [holdρ i hi] at h1
        rw [holdρ j hj] at h2
        exact hr.apart i j B' o1 r1 o2 r2 ro1 ro2 g1 g2 c1 c2 hij h1 h2 (old i ro1 g1 c1 hi h3) (old j ro2 g2 c2 hj h4) h5
  · intro i rt b1 y ro c h1 h2
    have hmsOk : ∀ m, m ∈ st.n :: ms' → ρ' m ≠ none := fun m1 hm => by
      rcases List.mem_cons.1 hm with rfl | hm
      · rw [hnewρ]; simp
      · obtain ⟨_, ms0, q1, q2, q3⟩ := hr.fam b r base _ false cs hρ hhb
        rw [ha.eq r hrn, f1] at q1; cases q1
        have := q3 m1 (f3 m1 hm)
        have hlt := ha.mem r ms f1 m1 (f3 m1 hm)
        rw [holdρ m1 (by omega)]; exact this
    by_cases hi : i = st.n
    · subst hi
      rw [hupd _ (by omega), F.mine] at h2
      cases h2
      exact ⟨rfl, st.n :: ms', by rw [hupd r (by omega)]; exact f2, by simp, hmsOk⟩
    · rw [holdρ i hi] at h1
      have h3 := old i ro _ c hi h2
      obtain ⟨e1, ms0, q1, q2, q3⟩ := hr.fam i rt b1 y ro c h1 h3
      refine ⟨e1, ?_⟩
      by_cases hin : i < st.n
      · have hrt : rt < st.n := ha.ref i ro rt b1 c (by rw [← ha.eq i hin]; exact h3)
        rw [ha.eq rt hrt] at q1
        rcases F.other rt (by omega) with q | ⟨_, _, _, rfl, _⟩ | ⟨_, _, _, _, ro', x', c', q⟩
        · refine ⟨ms0, by rw [hupd rt (by omega), q]; exact q1, q2, fun m1 hm => ?_⟩
          have := ha.mem rt ms0 q1 m1 hm
          rw [holdρ m1 (by omega)]; exact q3 m1 hm
        · rw [f1] at q1; cases q1
          rw [hupd i (by omega)] at h2
          exact ⟨st.n :: ms', by rw [hupd rt (by omega)]; exact f2, List.mem_cons_of_mem _ (f4 i q2 ro rt b1 c h2).1, hmsOk⟩
        · rw [q] at q1; cases q1
      · exact absurd h3 (far i (by rw [h1]; simp) hin ro _ c)
  · intro i hi
    by_cases hin : i = st.n
    · subst hin; rw [hupd _ (by omega), F.mine]; simp
    · rw [holdρ i hin] at hi
      by_cases hlt : i < st.n
      · rw [hupd i (by omega)]
        rcases F.other i hin with q | ⟨ms1, _, q1, rfl, _⟩ | ⟨_, _, _, q, _⟩
        · rw [q, ← ha.eq i hlt]; exact hr.ent i hi
        · exact absurd (by rw [ha.eq i hlt]; exact q1) ((hr.ent i hi).2 ms1)
        · rw [q]; simp
      · rcases Nat.lt_or_ge i st'.n with q | q
        · exact absurd (hf.none i (by omega) q) hi
        · rw [hupd2 i (by omega)]; exact hr.ent i hi
  · have hne : id ≠ st.n := by omega
    rcases F.other id hne with q | ⟨ms1, _, q1, rfl, _⟩ | ⟨ms1, q1, q2, _, _⟩
    · rw [q]; exact ha.wf id (by omega)
    · have := St.get_lt ha q1; omega
    · have := ha.mem r ms1 q1 id q2; omega
  · by_cases hi : i = st.n
    · subst hi; rw [F.mine] at hc; cases hc; omega
    · rcases F.other i hi with q | ⟨_, _, _, _, q⟩ | ⟨_, _, _, q, _⟩
      · rw [q] at hc; have := ha.ref i ro rt b1 c hc; omega
      · rw [q] at hc; cases hc
      · rw [q] at hc; cases hc
  · by_cases hi : rt = st.n
    · subst hi; rw [F.mine] at hms; cases hms
    · rcases F.other rt hi with q | ⟨_, _, _, rfl, q⟩ | ⟨_, _, _, q, _⟩
      · rw [q] at hms; have := ha.mem rt ms1 hms m1 hm; omega
      · rw [f2] at hms; cases hms
        rcases List.mem_cons.1 hm with rfl | hm
        · omega
        · have := ha.mem rt ms f1 m1 (f3 m1 hm); omega
      · rw [q] at hms; cases hms
  · have hBB : B1 ≠ B := fun e => by
      subst e
      obtain ⟨f', c', e'⟩ := hfree b o room hρ
      rw [hhb] at e'; cases e'
    refine ⟨hblocks B1 hB1 hBB, fun id o' r' h1 => ?_⟩
    by_cases hi : id = st.n
    · subst hi
      rw [hnewρ] at h1
      simp only [Option.some.injEq] at h1
      subst h1
      rcases hplace with q | ⟨q, _⟩
      · simp only at q; omega
      · simp only at q; exact absurd q hBB
    · rw [holdρ id hi] at h1
      obtain ⟨f', c', e'⟩ := hfree id o' r' h1
      refine ⟨f', c', ?_⟩
      by_cases hlt : id < st.n
      · rw [hupd id (by omega)]
        rw [ha.eq id hlt] at e'
        rcases F.other id hi with q | ⟨ms1, _, q1, rfl, _⟩ | ⟨ms1, q1, q2, _, ro, y, c, q4⟩
        · rw [q]; exact e'
        · rw [q1] at e'; cases e'
        · exfalso
          rw [q4] at e'
          simp only [Option.some.injEq, Ent.cells.injEq] at e'
          obtain ⟨rfl, _, _⟩ := e'
          have := hr.fam id y.1 y.2 _ true c h1 (by rw [ha.eq id hlt]; exact q4)
          cases this.1
      · rcases Nat.lt_or_ge id st'.n with q | q
        · have := hf.none id (by omega) q; rw [this] at h1; cases h1
        · rw [hupd2 id (by omega)]; exact e'
  · have hne : id ≠ st.n := by omega
    rcases F.other id hne with q | ⟨ms1, _, q1, rfl, _⟩ | ⟨ms1, q1, q2, _, _⟩
    · exact q
    · exact absurd q1 (hnf ms1)
    · exfalso
      obtain ⟨_, ms0, k1, k2, k3⟩ := hr.fam b r base _ false cs hρ hhb
      rw [ha.eq r hrn, q1] at k1; cases k1
      exact k3 id q2 hρi
end

end Go.Den
