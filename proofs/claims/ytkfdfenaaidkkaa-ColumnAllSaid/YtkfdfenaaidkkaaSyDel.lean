/- slices.Delete of one element: what it answers, from what its text does at each road. -/
import Derived.Test.YtkfdfenaaidkkaaSyIns
set_option linter.unusedSimpArgs false
set_option linter.unusedVariables false
namespace Go.Sy
open Go Go.RowKit
def delF (sh : Sh) : Spec := ⟨[], fun args s => match args, s with
  | [.tsl nn e 0 0 n .tight, .int .i64 i, .int .i64 j], [.tbl false e' l] =>
    .ok (Sh.beq e sh && (Sh.beq e' sh && (Nat.beq l.length n && (decide (0 ≤ i) && (decide (j = i + 1) && (decide (j ≤ n) && decide (n ≤ 1000000))))))) (.tsl true sh 1 0 (n - 1) .tight) [.dead, .tbl false sh (l.take i.toNat ++ l.drop (i.toNat + 1))] [0]
  | _, _ => .fail⟩
theorem del_ok {P : Program} {g T e0 : Nat} {sh : Sh} (ht : P.underlying T = some (.slice e0)) (hsh : shT P e0 = some sh) (h0 : 0 < sh.size)
    (hMid : ∀ (b off n c i : Nat) (w W1 W2 : World) (r2 : Value), i < n → n ≤ c → i + 1 < c → n ≤ 1000000000 →
      (∀ ty sc, (Builtin.append_ #[T, T] ty #[.slice (some ⟨b, off, none⟩) i c, .slice (some ⟨b, off + (i + 1) * sh.size, none⟩) (n - (i + 1)) sc]).run P w.drew = .ok (.slice (some ⟨b, off, none⟩) (n - 1) c) W1) →
      (∀ ty sc, (Builtin.clear_ #[T] ty #[.slice (some ⟨b, off + (n - 1) * sh.size, none⟩) 1 sc]).run P W1 = .ok r2 W2) →
      Calls P g #[.slice (some ⟨b, off, none⟩) n c, .int .i64 i, .int .i64 ((i : Int) + 1)] w fun e w' => e = .returned (.slice (some ⟨b, off, none⟩) (n - 1) c) ∧ w' = W2)
    (hLast : ∀ (b off i : Nat) (w W1 W2 : World) (r2 : Value), i ≤ 1000000000 →
      (∀ ty, (Builtin.append_ #[T, T] ty #[.slice (some ⟨b, off, none⟩) i (i + 1), .slice (some ⟨b, off, none⟩) 0 0]).run P w.drew = .ok (.slice (some ⟨b, off, none⟩) i (i + 1)) W1) →
      (∀ ty sc, (Builtin.clear_ #[T] ty #[.slice (some ⟨b, off + i * sh.size, none⟩) 1 sc]).run P W1 = .ok r2 W2) →
      Calls P g #[.slice (some ⟨b, off, none⟩) (i + 1) (i + 1), .int .i64 i, .int .i64 ((i : Int) + 1)] w fun e w' => e = .returned (.slice (some ⟨b, off, none⟩) i (i + 1)) ∧ w' = W2) : SpecOk P g (delF sh).f := by
  refine specOk_comes fun args s v s' tch eR => ?_
  simp only [delF] at eR
  split at eR
  · rename_i nn e n i j e' l
    obtain ⟨hg, rfl, rfl, rfl⟩ := run_ok eR
    simp only [Bool.and_eq_true, decide_eq_true_eq] at hg
    obtain ⟨he, he', hln, hi0, rfl, hin, hn6⟩ := hg
    have := Sh.beq_eq _ _ he; subst this
    have := Sh.beq_eq _ _ he'; subst this
    have hln := Nat.eq_of_beq_eq_true hln
    obtain ⟨hsz, z, hz, hzl, hznul⟩ := shT_some hsh
    refine ⟨by simp, fun ρ w vargs hi hr => ?_⟩
    simp only [Rels, Rel] at hr
    obtain ⟨v1, vs1, rfl, ⟨B, o, r, hρ0, hv1⟩, v2, vs2, rfl, rfl, v3, vs3, rfl, rfl, rfl⟩ := hr
    have H0 := hi.hr.cell 0 B o r (.tbl false e' l) false (flat e' l) hρ0 rfl rfl
    obtain ⟨us, hus, husc, _⟩ := H0.vals
    obtain ⟨k, rfl⟩ : ∃ k : Nat, i = k := ⟨i.toNat, by omega⟩
    simp only [Int.toNat_natCast]
    have hk : k < n := by omega
    have hulen := hus.length
    rw [flat_length, hln] at hulen
    rcases hv1 with ⟨_, hn0, _⟩ | ⟨c, hc1, hc2, _, hc4, rfl | ⟨rfl, y, rfl⟩⟩
    · omega
    · simp [Cap.top] at hc2
      rw [Nat.zero_mul, Nat.zero_add] at hc4
      rw [Nat.zero_mul, Nat.add_zero]
      have hcr : n * e'.size ≤ c * e'.size := Nat.mul_le_mul_right _ (by omega)
      have hnpos : 0 < n * e'.size := Nat.mul_pos (by omega) h0
      have hr0 : r ≠ 0 := by omega
      have hm1 : (n - (k + 1)) * e'.size = n * e'.size - (k + 1) * e'.size := Nat.sub_mul _ _ _
      have hm2 : (k + 1) * e'.size ≤ n * e'.size := Nat.mul_le_mul_right _ (by omega)
      have hm3 : (k + 1) * e'.size = k * e'.size + e'.size := by rw [Nat.add_mul, Nat.one_mul]
      have hm4 : (n - 1) * e'.size = n * e'.size - e'.size := by rw [Nat.sub_mul, Nat.one_mul]
      obtain ⟨news, hnw⟩ : ∃ news, news = us.drop ((k + 1) * e'.size) := ⟨_, rfl⟩
      have hnR : Rels ρ (flat e' (l.drop (k + 1))) news := by rw [flat_drop, hnw]; exact hus.drop _
      have hnlen : news.length = (n - (k + 1)) * e'.size := by
        have := hnR.length
        rw [flat_length, List.length_drop, hln] at this
        exact this
      have hnc : ∀ j v, news[j]? = some v → w.cell? ⟨B, o + (k + 1) * e'.size + j, none⟩ = some v := fun j v hj => by
        rw [hnw, List.getElem?_drop] at hj
        rw [Nat.add_assoc]
        exact husc _ v hj
      have hn1 : ∀ v ∈ news, v.oneCell' = true := hnR.oneCell (scalars_flat _ _)
      -- nought
      obtain ⟨zv, hzr, hrel⟩ := run_zeroA hz ρ
      have hzs : zv.cells.size = e'.size := by have := hrel.cells.length; simp only [Array.length_toList] at this; omega
      have hflat : Rels ρ (flat e' [D.nul]) (timesV 1 zv.cells.toList) := by
        have := Rels.times (hznul ρ _ hrel.cells) 1
        rwa [← flat_replicate] at this
      have hvl := hflat.length
      rw [flat_length, List.length_singleton, Nat.one_mul] at hvl
      have hz1 := hflat.oneCell (scalars_flat _ _)
      -- the two writes
      have hst1 : (storeCells ⟨B, o + k * e'.size, none⟩ news).run P w.drew = .ok () (w.drew.setCells B (o + k * e'.size) news) := by
        have := run_storeCells_cells (P := P) B (o + k * e'.size) news 0 w.drew
          (fun j hj => by rw [Nat.add_zero, Nat.add_assoc]; exact H0.there _ (by omega)) (fun j hj => H0.free rfl hr0 _) hn1
        simpa using this
      have hst2 : (storeCells ⟨B, o + (n - 1) * e'.size, none⟩ (timesV 1 zv.cells.toList)).run P (w.drew.setCells B (o + k * e'.size) news) = .ok () ((w.drew.setCells B (o + k * e'.size) news).setCells B (o + (n - 1) * e'.size) (timesV 1 zv.cells.toList)) := by
        have := run_storeCells_cells (P := P) B (o + (n - 1) * e'.size) (timesV 1 zv.cells.toList) 0 (w.drew.setCells B (o + k * e'.size) news)
          (fun j hj => by
            refine isSome_setCells _ _ _ _ _ ?_
            rw [Nat.add_zero, Nat.add_assoc]; exact H0.there _ (by omega)) (fun j hj => by rw [World.frozen?_setCells]; exact H0.free rfl hr0 _) hz1
        simpa using this
      have hclr : ∀ ty sc, (Builtin.clear_ #[T] ty #[.slice (some ⟨B, o + (n - 1) * e'.size, none⟩) 1 sc]).run P (w.drew.setCells B (o + k * e'.size) news) = .ok (.tuple #[]) ((w.drew.setCells B (o + k * e'.size) news).setCells B (o + (n - 1) * e'.size) (timesV 1 zv.cells.toList)) := fun ty sc => by
        simp [Builtin.clear_, run_underlying ht, hzr, zeroCells_times _ _ (show 0 < zv.cells.size ∨ 1 = 0 by left; omega), hst2]
      -- what is there then
      have hP1 := (write_post (P := P) (off := (n - 1) * e'.size) (x' := .tbl false e' (l.take (n - 1) ++ ([D.nul] ++ l.drop (n - 1 + 1)))) (cs' := flat e' (l.take (n - 1) ++ ([D.nul] ++ l.drop (n - 1 + 1)))) (vs := timesV 1 zv.cells.toList) (hi.hr.drew (w.drawn + 1)) (hpS_agree [Ent.tbl false e' l]) (b := 0) rfl rfl hρ0
        (by rw [hvl, flat_length, hln]; omega) hz1 (by rw [flat_length, flat_length]; congr 1; simp; omega)
        (fun us hus => flat_mid (off := n - 1) hus hflat) rfl).2
      have hP2 := (fork_in (P := P) (b := 0) (k := 0) (q := k * e'.size) (x := .tbl false e' (l.take k ++ l.drop (k + 1))) (as := flat e' (l.take k ++ l.drop (k + 1))) (vs := news) hP1.hr hP1.agree rfl rfl hρ0
        (fun id h1 h2 => hi.dom id (by simpa using h1)) rfl
        (by rw [flat_append, List.length_append, flat_take, List.length_take, flat_length, hln, flat_length, List.length_drop, hln, hnlen, Nat.min_eq_left (by omega)])
        (fun us1 hus1 => by
          rw [flat_append]
          have h3 := hus1.take (k * e'.size)
          rw [← flat_take, List.take_append_of_le_length (by rw [List.length_take]; omega), List.take_take, Nat.min_eq_left (by omega)] at h3
          rw [List.drop_zero]
          exact h3.append hnR) hn1
        (by rw [flat_length]; simp only [List.length_append, List.length_take, List.length_singleton, List.length_drop]
            have : (min (n - 1) l.length + (1 + (l.length - (n - 1 + 1)))) = n := by omega
            rw [this]; omega)
        (by omega)).2
      have hP := (hP1.trans hP2).from_drew
      rw [upd_upd (by simp [kill])] at hP
      have hw : (w.drew.setCells B (o + k * e'.size) news).setCells B (o + (n - 1) * e'.size) (timesV 1 zv.cells.toList) = (w.drew.setCells B (o + (n - 1) * e'.size) (timesV 1 zv.cells.toList)).setCells B (o + (0 + k * e'.size)) news := by
        rw [Nat.zero_add]
        exact setCells_swap B _ _ _ _ _ (by omega)
      have fin : ∀ e w'', e = Ending.returned (.slice (some ⟨B, o, none⟩) (n - 1) c) → w'' = (w.drew.setCells B (o + k * e'.size) news).setCells B (o + (n - 1) * e'.size) (timesV 1 zv.cells.toList) →
          ∃ u ρ', e = .returned u ∧ PostC [Ent.tbl false e' l].length ρ [Ent.tbl false e' l] w ρ' [Ent.dead, Ent.tbl false e' (l.take k ++ l.drop (k + 1))] w'' ∧ Rel ρ' (.tsl true e' 1 0 (n - 1) .tight) u := fun e w'' he hw' => by
        rw [hw] at hw'
        subst hw'
        refine ⟨_, _, he, hP.toC hi (Nat.le_refl _), ?_⟩
        simp only [Rel]
        exact ⟨_, _, _, Rho.put_same _ _ _, .inr ⟨c, by simp [Cap.top], by simp [Cap.top]; omega, trivial, by omega, .inl (by simp)⟩⟩
      by_cases hic : k + 1 < c
      · have happ : ∀ ty sc, (Builtin.append_ #[T, T] ty #[.slice (some ⟨B, o, none⟩) k c, .slice (some ⟨B, o + (k + 1) * e'.size, none⟩) (n - (k + 1)) sc]).run P w.drew = .ok (.slice (some ⟨B, o, none⟩) (n - 1) c) (w.drew.setCells B (o + k * e'.size) news) := fun ty sc => by
          have := run_append_in (P := P) (w := w.drew) (ty := ty) (base := some ⟨B, o, none⟩) (sLen := k) (sCap := c) (m := n - (k + 1)) (xu := .slice (some ⟨B, o + (k + 1) * e'.size, none⟩) (n - (k + 1)) sc) (news := news) ht ht (fun k h => by cases h) hsz (fun w => rfl)
            (by
              simp only [Builtin.firstCells]
              have := run_loadCells_list (P := P) w.drew ⟨B, o + (k + 1) * e'.size, none⟩ news (fun j v hj => by rw [Addr.add_lit]; exact hnc j v hj)
              rw [hnlen] at this; exact this) (by omega) (by simp only [Addr.add_lit]; exact hst1)
          rw [show k + (n - (k + 1)) = n - 1 by omega] at this
          exact this
        exact (hMid B o n c k w _ _ _ hk hc2 hic (by omega) happ hclr).mono fun e w'' ⟨he, hw'⟩ => fin e w'' he hw'
      · have hcn : c = k + 1 := by omega
        have hn1 : n = k + 1 := by omega
        subst hcn
        subst hn1
        have hnil : news = [] := by
          apply List.eq_nil_of_length_eq_zero
          rw [hnlen]; simp
        subst hnil
        have happ : ∀ ty, (Builtin.append_ #[T, T] ty #[.slice (some ⟨B, o, none⟩) k (k + 1), .slice (some ⟨B, o, none⟩) 0 0]).run P w.drew = .ok (.slice (some ⟨B, o, none⟩) k (k + 1)) w.drew := fun ty => by
          have := run_append_in (P := P) (w := w.drew) (w' := w.drew) (ty := ty) (base := some ⟨B, o, none⟩) (sLen := k) (sCap := k + 1) (m := 0) (xu := .slice (some ⟨B, o, none⟩) 0 0) (news := []) ht ht (fun k h => by cases h) hsz (fun w => rfl)
            (by simp [Builtin.firstCells, loadCells, loadCellsFrom]) (by omega) (by simp [storeCells])
          exact this
        simp only [Nat.add_sub_cancel] at hclr fin
        exact (hLast B o k w _ _ _ (by omega) happ hclr).mono fun e w'' ⟨he, hw'⟩ => fin e w'' he hw'
    · simp [Cap.top] at hc2
      omega
  · cases eR
end Go.Sy
