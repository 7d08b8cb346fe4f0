/- slices.Insert of one element: what it answers, from what its text does at each road. -/
import Derived.Test.YtkfdfenaaidkkaaSyJns
import Derived.Lib.AppendZerosOnto
import Derived.Lib.Overlaps
import Derived.OwnWalk
import Derived.Deep.DeepAppendWide
set_option linter.unusedSimpArgs false
set_option linter.unusedVariables false
namespace Go.Sy
open Go Go.RowKit
/-- 'copy', of elements of any size. -/
theorem run_copyN {P : Program} (w : World) (dT sT ty e0 : TypeId) {sz m : Nat} (B o dLen dc B' o' sLen sc : Nat) (vs : List Value) (ht : P.underlying dT = some (.slice e0)) (hsz : sizeA P e0 = some sz) (hm : Nat.min sLen dLen = m) (hl : vs.length = m * sz)
    (hsrc : ∀ j v, vs[j]? = some v → w.cell? ⟨B', o' + j, none⟩ = some v) (hc : ∀ j, j < vs.length → (w.cell? ⟨B, o + j, none⟩).isSome = true) (hf : ∀ j, j < vs.length → w.frozen? ⟨B, o + j, none⟩ = false) (h1 : ∀ v ∈ vs, v.oneCell' = true) :
    (Builtin.copy_ #[dT, sT] ty #[.slice (some ⟨B, o, none⟩) dLen dc, .slice (some ⟨B', o', none⟩) sLen sc]).run P w = .ok (goInt m) (w.setCells B o vs) := by
  have hld := run_loadCells_list (P := P) w ⟨B', o', none⟩ vs (fun j v hj => by rw [Addr.add_lit]; exact hsrc j v hj)
  have hst := run_storeCells_cells (P := P) B o vs 0 w (by simpa using hc) (by simpa using hf) h1
  rw [hl] at hld
  simp only [Nat.add_zero] at hst
  simp [Builtin.copy_, run_underlying ht, Builtin.lenOf, Builtin.firstCells, run_sizeA hsz, hm, hld, hst, goInt]
def insF (sh : Sh) : Spec := ⟨[], fun args s => match args, s with
  | [.tsl nn e 0 0 n .tight, .int .i64 i, .sl 1 0 1 1], [.tbl false e' l, .cells cs] => match collS [] sh cs with
    | some (g, x, [], []) => .ok (g && (Sh.beq e sh && (Sh.beq e' sh && (Nat.beq l.length n && (decide (0 ≤ i) && (decide (i ≤ n) && decide (n ≤ 1000000))))))) (.tsl true sh 2 0 (n + 1) .tight) [.dead, .cells cs, .tbl false sh (l.take i.toNat ++ x :: l.drop i.toNat)] [0]
    | _ => .fail
  | _, _ => .fail⟩
/-- In place. -/
theorem ins_in {P : Program} {ρ : Rho} {h : Hp} {w : World} {s : St} (hr : HR ρ h w) (ha : Agree s h) {b B o r i : Nat} {sh : Sh} {l : List D} {x : D} {xs olds : List Value} (hb : s[b]? = some (.tbl false sh l)) (hρ : ρ b = some (B, o, r))
    (hf : Fresh ρ s (kill s b ++ [.tbl false sh (l.take i ++ x :: l.drop i)])) (hi : i ≤ l.length) (hxs : Rels ρ (expand sh x) xs) (holds : Rels ρ (flat sh (l.drop i)) olds) (hfit : (l.length + 1) * sh.size ≤ r) :
    Post ρ h w s (ρ.put s.length (B, o, r)) (upd (kill s b ++ [.tbl false sh (l.take i ++ x :: l.drop i)]) h) (w.setCells B (o + i * sh.size) (xs ++ olds)) (kill s b ++ [.tbl false sh (l.take i ++ x :: l.drop i)]) := by
  have hxl := hxs.length
  have hol := holds.length
  rw [expand_length] at hxl
  rw [flat_length, List.length_drop] at hol
  have e1 : flat sh (l.take i ++ x :: l.drop i) = (flat sh l).take (i * sh.size) ++ (expand sh x ++ flat sh (l.drop i)) := by
    rw [flat_append, flat_take]; rfl
  have e2 : (l.length - i) * sh.size = l.length * sh.size - i * sh.size := Nat.sub_mul _ _ _
  have e3 : i * sh.size ≤ l.length * sh.size := Nat.mul_le_mul_right _ hi
  rw [Nat.add_mul, Nat.one_mul] at hfit
  have := (fork_in (P := P) (k := 0) (q := i * sh.size) (x := .tbl false sh (l.take i ++ x :: l.drop i)) (vs := xs ++ olds) hr ha hb rfl hρ hf rfl
    (by rw [flat_length]; simp only [List.length_append, List.length_take, List.length_cons, List.length_drop, hxl, hol, Nat.min_eq_left hi]
        rw [e2, show i + (l.length - i + 1) = l.length + 1 by omega, Nat.add_mul]; omega)
    (fun us hus => by rw [e1]; exact (by simpa using hus.take (i * sh.size) : Rels ρ ((flat sh l).take (i * sh.size)) ((us.drop 0).take (i * sh.size))).append (hxs.append holds))
    (fun v hv => by
      rcases List.mem_append.1 hv with hv | hv
      · exact hxs.oneCell (scalars_expand _ _) v hv
      · exact holds.oneCell (scalars_flat _ _) v hv)
    (by rw [flat_length]; omega) (by rw [List.length_append, hxl, hol, e2]; omega)).2
  simpa using this
theorem isSome_setCells (B : Nat) (vs : List Value) (o : Nat) (w : World) (x : Addr) (h : (w.cell? x).isSome = true) : ((w.setCells B o vs).cell? x).isSome = true := setCells_isSome B vs o w x h
theorem shape_of {w : World} {B o : Nat} (h : (w.cell? ⟨B, o, none⟩).isSome = true) : ∃ t k, w.shape? B = some (t, k) ∧ k ≠ 0 := by
  unfold World.cell? at h
  unfold World.shape?
  cases hB : w.heap[B]? with
  | none => simp [hB] at h
  | some x =>
    cases x with
    | cells c e f =>
      refine ⟨e, c.size, rfl, fun h0 => ?_⟩
      have : c = #[] := Array.eq_empty_of_size_eq_zero h0
      subst this
      simp [hB] at h
    | _ => simp [hB] at h
theorem ins_ok {P : Program} {g T e0 tn ov : Nat} {sh : Sh} {z : Value} {by_ : Nat} (ht : P.underlying T = some (.slice e0)) (htn : P.underlying tn = some (.int .i64)) (hsh : shT P e0 = some sh) (hI : (P.info? e0).map (fun i => (i.zero, i.size, i.bytes)) = some (some z, sh.size, by_)) (hz : z.cells.size = sh.size) (h0 : 0 < sh.size) (hb0 : 0 < by_) (hb1 : by_ ≤ 1000)
    (hEnd : ∀ (base : Option Addr) (n c : Nat) (vb : Addr) (vc : Nat) (w w' : World) (r : Value), n ≤ c → (base = none → n = 0 ∧ c = 0) → (∀ a, base = some a → a.spot = none) →
      (∀ ty, (Builtin.append_ #[T, T] ty #[.slice base n c, .slice (some vb) 1 vc]).run P w = .ok r w') →
      Calls P g #[.slice base n c, .int .i64 n, .slice (some vb) 1 vc] w fun e w'' => e = .returned r ∧ w'' = w')
    (hShift : ∀ (b off n c i : Nat) (vb : Addr) (vc : Nat) (w W1 W2 : World) (r1 r2 : Value), i < n → n + 1 ≤ c → n ≤ 1000000000 →
      (∀ lb cb, (callFunc ov #[.slice (some vb) 1 vc, .slice (some ⟨b, off + (i + 1) * sh.size, none⟩) lb cb]).run P w = .ok (.value (.bool false)) w) →
      (∀ ty dc sc, (Builtin.copy_ #[T, T] ty #[.slice (some ⟨b, off + (i + 1) * sh.size, none⟩) (n - i) dc, .slice (some ⟨b, off + i * sh.size, none⟩) (n + 1 - i) sc]).run P w.drew = .ok r1 W1) →
      (∀ ty dc, (Builtin.copy_ #[T, T] ty #[.slice (some ⟨b, off + i * sh.size, none⟩) (n + 1 - i) dc, .slice (some vb) 1 vc]).run P W1 = .ok r2 W2) →
      Calls P g #[.slice (some ⟨b, off, none⟩) n c, .int .i64 i, .slice (some vb) 1 vc] w fun e w' => e = .returned (.slice (some ⟨b, off, none⟩) (n + 1) c) ∧ w' = W2)
    (hGrow : ∀ (b off n c i N C : Nat) (vb : Addr) (vc : Nat) (w W1 W2 W3 : World) (r2 r3 : Value), i < n → n ≤ c → c < n + 1 → n ≤ 1000000000 → n + 1 ≤ C →
      (∀ ty, (Builtin.append_ #[T, tn] ty #[.slice (some ⟨b, off, none⟩) i c, .int .i64 ((n : Int) + 1 - (i : Int))]).run P w = .ok (.slice (some ⟨N, 0, none⟩) (n + 1) C) W1) →
      (∀ ty dc, (Builtin.copy_ #[T, T] ty #[.slice (some ⟨N, i * sh.size, none⟩) (n + 1 - i) dc, .slice (some vb) 1 vc]).run P W1 = .ok r2 W2) →
      (∀ ty dc sc, (Builtin.copy_ #[T, T] ty #[.slice (some ⟨N, (i + 1) * sh.size, none⟩) (n - i) dc, .slice (some ⟨b, off + i * sh.size, none⟩) (n - i) sc]).run P W2.drew = .ok r3 W3) →
      Calls P g #[.slice (some ⟨b, off, none⟩) n c, .int .i64 i, .slice (some vb) 1 vc] w fun e w' => e = .returned (.slice (some ⟨N, 0, none⟩) (n + 1) C) ∧ w' = W3)
    (hOv : ∀ (w : World) (a b : Addr) (lb cb vc : Nat) (tA tB : TypeId) (kA kB : Nat), a.block ≠ b.block → w.shape? a.block = some (tA, kA) → w.shape? b.block = some (tB, kB) → kB ≠ 0 → w.frozen? a = false → w.frozen? { block := a.block, off := kA } = false →
      (callFunc ov #[.slice (some a) 1 vc, .slice (some b) lb cb]).run P w = .ok (.value (.bool false)) w) : SpecOk P g (insF sh).f := by
  refine specOk_comes fun args s v s' tch eR => ?_
  simp only [insF] at eR
  split at eR
  · rename_i nn e n i e' l cs
    split at eR
    · rename_i gg x hcol
      obtain ⟨hg, rfl, rfl, rfl⟩ := run_ok eR
      simp only [Bool.and_eq_true, decide_eq_true_eq] at hg
      obtain ⟨rfl, he, he', hln, hi0, hin, hn6⟩ := hg
      have := Sh.beq_eq _ _ he; subst this
      have := Sh.beq_eq _ _ he'; subst this
      have hln := Nat.eq_of_beq_eq_true hln
      obtain ⟨hsz, _⟩ := shT_some hsh
      obtain ⟨i0, hi1, hz1, hz2, hz3⟩ := info_parts hI
      have hby : bytesA P e0 = some by_ := by simp [bytesA, hi1, hz3]
      refine ⟨by simp, fun ρ w vargs hi hr => ?_⟩
      simp only [Rels, Rel] at hr
      obtain ⟨v1, vs1, rfl, ⟨B, o, r, hρ0, hv1⟩, v2, vs2, rfl, rfl, v3, vs3, rfl, ⟨B', o', r', hρ1, _, rfl⟩, rfl⟩ := hr
      have H0 := hi.hr.cell 0 B o r (.tbl false e' l) false (flat e' l) hρ0 rfl rfl
      have H1 := hi.hr.cell 1 B' o' r' (.cells cs) false cs hρ1 rfl rfl
      obtain ⟨us, hus, husc, _⟩ := H0.vals
      obtain ⟨xs, hxs0, hxsc, _⟩ := H1.vals
      have hcs := coll_sound (ρ := ρ) (s := []) e' cs xs x [] [] hcol hxs0 (fun b hb => by simp at hb)
      have hcl : xs.length = e'.size := by
        have h2 := hcs.2
        simp only [Rels] at h2
        have h3 := hcs.1.length
        have h4 : xs.length ≤ e'.size := by
          have := congrArg List.length h2
          simp at this; omega
        rw [List.length_take] at h3; omega
      have hxs : Rels ρ (expand e' x) xs := by
        have := (rels_expand e' x _).1 hcs.1
        rwa [List.take_of_length_le (by omega)] at this
      have hag := hpS_agree [Ent.tbl false e' l, Ent.cells cs]
      have hfr : ∀ y : Ent, Fresh ρ [Ent.tbl false e' l, Ent.cells cs] (kill [Ent.tbl false e' l, Ent.cells cs] 0 ++ [y]) := fun y id h1 h2 => hi.dom id h1
      have hrun1 : ∀ j v, xs[j]? = some v → w.cell? ⟨B', o' + 0 + j, none⟩ = some v := fun j v hj => by rw [Nat.add_zero]; exact hxsc j v hj
      have hulen := hus.length
      rw [flat_length] at hulen
      obtain ⟨k, rfl⟩ : ∃ k : Nat, i = k := ⟨i.toNat, by omega⟩
      simp only [Int.toNat_natCast]
      have hkn : k ≤ n := by omega
      by_cases hkn' : k = n
      · subst hkn'
        -- at the end
        have hS : SrcOk P ρ w e' (.slice (some ⟨B', o' + 0, none⟩) 1 1) [x] xs := by
          refine ⟨fun w => rfl, by simp only [flat, List.append_nil]; exact hxs, fun m q hq => ?_⟩
          simp only [Builtin.firstCells]
          have : q = 0 ∨ q = 1 := by simp at hq; omega
          rcases this with rfl | rfl
          · simp [loadCells, loadCellsFrom]
          · have := run_loadCells_list (P := P) { w with drawn := m } ⟨B', o' + 0, none⟩ xs (fun j v hj => by rw [Addr.add_lit]; exact hrun1 j v hj)
            rw [Nat.one_mul, List.take_of_length_le (by omega), ← hcl]
            exact this
        have happ := append_tight (P := P) (ty := 0) (by_ := by_) (nn := true) hi.hr hag ht ht (fun k h => by cases h) hsh hby (su := v1) (old := l) hS hb0
          (by rw [hln, List.length_singleton]; exact Nat.le_trans (Nat.mul_le_mul_left _ hb1) (by omega)) (Kept.kill (b := 0) (by rw [hρ0]; simp)) (hfr _) (fun _ => .inr (by simp))
          (by
            rcases hv1 with ⟨_, hn0, _, _, rfl⟩ | ⟨c, hc1, hc2, _, hc4, rfl | ⟨rfl, y, rfl⟩⟩
            · exact .inl ⟨List.eq_nil_of_length_eq_zero (by omega), rfl⟩
            · refine .inr (.inl ⟨0, B, o, r, 0, .tbl false e' l, flat e' l, c, rfl, rfl, hρ0, rfl, by rw [flat_length]; omega, fun us hus => ?_, by omega, by simp [Cap.top] at hc2; omega, by rw [hln, Nat.zero_mul, Nat.add_zero]⟩)
              have := hus.length
              rw [flat_length] at this
              rw [List.drop_zero, List.take_of_length_le (by omega)]
              exact hus
            · refine .inr (.inr (.inl ⟨0, B, o, r, .tbl false e' l, flat e' l, y, List.eq_nil_of_length_eq_zero (by simp [Cap.top] at hc2; omega), rfl, rfl, hρ0, rfl, ?_⟩))
              simp [Cap.top] at hc2
              first | rfl | rw [hc2])
        obtain ⟨rv, w', ρ', hrun, hP, hrel⟩ := happ
        have hdt : l.take k ++ x :: l.drop k = l ++ [x] := by
          rw [List.take_of_length_le (by omega), List.drop_eq_nil_of_le (by omega)]
        have hcall : Calls P g #[v1, .int .i64 (k : Int), .slice (some ⟨B', o' + 0, none⟩) 1 1] w fun e w'' => e = .returned rv ∧ w'' = w' := by
          rcases hv1 with ⟨_, hn0, _, _, rfl⟩ | ⟨c, hc1, hc2, _, hc4, rfl | ⟨rfl, y, rfl⟩⟩
          · subst hn0
            exact hEnd none 0 0 _ _ w w' rv (by omega) (fun _ => ⟨rfl, rfl⟩) (fun a h => by cases h) (fun ty => by rw [← hrun]; rfl)
          · exact hEnd (some ⟨B, o + 0 * e'.size, none⟩) k c _ _ w w' rv (by simp [Cap.top] at hc2; omega) (fun h => by cases h) (fun a h => by cases h; rfl) (fun ty => by rw [← hrun]; rfl)
          · simp [Cap.top] at hc2
            subst hc2
            exact hEnd (some ⟨B, y, none⟩) 0 0 _ _ w w' rv (by omega) (fun h => by cases h) (fun a h => by cases h; rfl) (fun ty => by rw [← hrun]; rfl)
        refine hcall.mono fun e w'' ⟨he, hw⟩ => ?_
        subst hw
        refine ⟨rv, ρ', he, ?_, ?_⟩
        · rw [hdt]
          exact hP.toC hi (Nat.le_refl _)
        · rw [hln] at hrel; exact hrel
      · have hk : k < n := by omega
        rw [hln] at hulen
        rcases hv1 with ⟨_, hn0, _⟩ | ⟨c, hc1, hc2, _, hc4, rfl | ⟨rfl, y, rfl⟩⟩
        · omega
        · simp [Cap.top] at hc2
          rw [Nat.zero_mul, Nat.zero_add] at hc4
          rw [Nat.zero_mul, Nat.add_zero]
          have hcr : (n + 0) * e'.size ≤ c * e'.size := Nat.mul_le_mul_right _ (by omega)
          have hnpos : 0 < n * e'.size := Nat.mul_pos (by omega) h0
          have hr0 : r ≠ 0 := by rw [Nat.add_zero] at hcr; omega
          have hr1 : r' ≠ 0 := by
            have := H1.fit
            have := hxs0.length
            omega
          have hBB : B' ≠ B := fun e => by
            subst e
            exact hi.hr.apart 0 1 B' o r o' r' (.tbl false e' l) (.cells cs) false false (flat e' l) cs (by omega) hρ0 hρ1 hr0 hr1 rfl rfl rfl rfl (.inl rfl)
          obtain ⟨olds, hol⟩ : ∃ olds, olds = us.drop (k * e'.size) := ⟨_, rfl⟩
          have hoR : Rels ρ (flat e' (l.drop k)) olds := by rw [flat_drop, hol]; exact hus.drop _
          have holen : olds.length = (n - k) * e'.size := by
            have := hoR.length
            rw [flat_length, List.length_drop, hln] at this
            exact this
          have hoc : ∀ j v, olds[j]? = some v → w.cell? ⟨B, o + k * e'.size + j, none⟩ = some v := fun j v hj => by
            rw [hol, List.getElem?_drop] at hj
            rw [Nat.add_assoc]
            exact husc _ v hj
          have ho1 : ∀ v ∈ olds, v.oneCell' = true := hoR.oneCell (scalars_flat _ _)
          have hx1 : ∀ v ∈ xs, v.oneCell' = true := hxs.oneCell (scalars_expand _ _)
          have hm1 : (n - k) * e'.size = n * e'.size - k * e'.size := Nat.sub_mul _ _ _
          have hm2 : k * e'.size + e'.size ≤ n * e'.size := by
            have := Nat.mul_le_mul_right e'.size (show k + 1 ≤ n by omega)
            rwa [Nat.add_mul, Nat.one_mul] at this
          have hm3 : (k + 1) * e'.size = k * e'.size + e'.size := by rw [Nat.add_mul, Nat.one_mul]
          by_cases hroom : n + 1 ≤ c
          · -- there is room
            have hcr1 : n * e'.size + e'.size ≤ c * e'.size := by
              have := Nat.mul_le_mul_right e'.size hroom
              rwa [Nat.add_mul, Nat.one_mul] at this
            obtain ⟨tA, kA, hsA, _⟩ := shape_of (w := w) (B := B') (o := o') (by have := H1.there 0 (by omega); rwa [Nat.add_zero] at this)
            obtain ⟨tB, kB, hsB, hkB⟩ := shape_of (w := w) (B := B) (o := o) (by have := H0.there 0 (by omega); rwa [Nat.add_zero] at this)
            have hcp1 : ∀ ty dc sc, (Builtin.copy_ #[T, T] ty #[.slice (some ⟨B, o + (k + 1) * e'.size, none⟩) (n - k) dc, .slice (some ⟨B, o + k * e'.size, none⟩) (n + 1 - k) sc]).run P w.drew = .ok (goInt ((n - k : Nat) : Int)) (w.drew.setCells B (o + (k + 1) * e'.size) olds) := fun ty dc sc =>
              run_copyN w.drew T T ty e0 B (o + (k + 1) * e'.size) (n - k) dc B (o + k * e'.size) (n + 1 - k) sc olds ht hsz (by simp only [Nat.min_def]; split <;> omega) holen hoc
                (fun j hj => by rw [Nat.add_assoc]; exact H0.there _ (by omega)) (fun j hj => H0.free rfl hr0 _) ho1
            have hcp2 : ∀ ty dc, (Builtin.copy_ #[T, T] ty #[.slice (some ⟨B, o + k * e'.size, none⟩) (n + 1 - k) dc, .slice (some ⟨B', o' + 0, none⟩) 1 1]).run P (w.drew.setCells B (o + (k + 1) * e'.size) olds) = .ok (goInt ((1 : Nat) : Int)) ((w.drew.setCells B (o + (k + 1) * e'.size) olds).setCells B (o + k * e'.size) xs) := fun ty dc =>
              run_copyN _ T T ty e0 B (o + k * e'.size) (n + 1 - k) dc B' (o' + 0) 1 1 xs ht hsz (by simp only [Nat.min_def]; split <;> omega) (by omega)
                (fun j v hj => by
                  rw [World.cell?_setCells_out _ _ _ _ _ (fun h _ => absurd h hBB)]
                  exact hrun1 j v hj)
                (fun j hj => by
                  refine isSome_setCells _ _ _ _ _ ?_
                  rw [Nat.add_assoc]
                  exact H0.there _ (by omega))
                (fun j hj => by rw [World.frozen?_setCells]; exact H0.free rfl hr0 _) hx1
            refine (hShift B o n c k ⟨B', o' + 0, none⟩ 1 w _ _ _ _ hk hroom (by omega) (fun lb cb => hOv w _ _ lb cb 1 tA tB kA kB hBB hsA hsB hkB (H1.free rfl hr1 _) (H1.free rfl hr1 _)) hcp1 hcp2).mono fun e w'' ⟨he, hw⟩ => ?_
            have hw2 : w'' = (w.drew).setCells B (o + k * e'.size) (xs ++ olds) := by
              have e5 : o + (k + 1) * e'.size = o + k * e'.size + xs.length := by omega
              rw [hw, setCells_swap B xs olds _ _ _ (by omega), setCells_append, e5]
            have hP := (ins_in (P := P) (b := 0) (x := x) (hi.hr.drew (w.drawn + 1)) hag rfl hρ0 (hfr _) (by omega) hxs hoR (by rw [hln, Nat.add_mul, Nat.one_mul]; omega)).from_drew
            subst hw2
            refine ⟨_, _, he, hP.toC hi (Nat.le_refl _), ?_⟩
            simp only [Rel]
            refine ⟨_, _, _, Rho.put_same _ _ _, .inr ⟨c, by simp [Cap.top], by simpa [Cap.top] using hroom, trivial, by omega, .inl (by simp)⟩⟩
          · -- a new row
            have hcn : c = n := by omega
            subst hcn
            have hm5 : (c + 1) * e'.size = c * e'.size + e'.size := by rw [Nat.add_mul, Nat.one_mul]
            have hzl : ∀ q, (Builtin.zeroCells z.cells q).toList.length = q * e'.size := fun q => by simp [Builtin.zeroCells, hz]
            have hold : (Builtin.firstCells i0.size k (.slice (some ⟨B, o, none⟩) k c)).run P w.drew = .ok (us.take (k * e'.size)).toArray w.drew := by
              simp only [Builtin.firstCells]
              have := run_loadCells_list (P := P) w.drew ⟨B, o, none⟩ (us.take (k * e'.size)) (fun j v hj => by
                rw [Addr.add_lit]
                rw [List.getElem?_take] at hj
                split at hj
                · exact husc _ v hj
                · cases hj)
              rw [List.length_take, Nat.min_eq_left (by omega)] at this
              rw [hz2]; exact this
            have hfits : Builtin.nextslicecap (k + (c + 1 - k)) c * i0.bytes ≤ 281474976710656 := growslice_fits_wide (by omega) (by
              rw [hz3]
              refine Nat.le_trans (Nat.mul_le_mul_left _ hb1) ?_
              omega)
            have hk48 : (c + 1 - k) * i0.bytes ≤ 281474976710656 := by
              rw [hz3]
              exact Nat.le_trans (Nat.mul_le_mul_left _ hb1) (by omega)
            have hrz := fun ty => Lib.run_append_grow_zeros w T tn ty e0 i0 z .i64 .i64 ht htn hi1 hz1 (some ⟨B, o, none⟩) k c (us.take (k * e'.size)) hold (c + 1 - k) (by omega) (by omega) (by omega) (by omega) hk48 hfits
            rw [show k + (c + 1 - k) = c + 1 by omega] at hrz
            rw [show ((c + 1 - k : Nat) : Int) = (c : Int) + 1 - (k : Int) by omega] at hrz
            obtain ⟨G, hG⟩ : ∃ G, G = grownCap w (c + 1) c e0 := ⟨_, rfl⟩
            have hGn : c + 1 ≤ G := by rw [hG]; exact grownCap_ge w _ _ _
            rw [← hG] at hrz
            obtain ⟨Z1, hZ1⟩ : ∃ Z1, Z1 = (Builtin.zeroCells z.cells (c + 1 - k)).toList := ⟨_, rfl⟩
            obtain ⟨Z2, hZ2⟩ : ∃ Z2, Z2 = (Builtin.zeroCells z.cells (G - (c + 1))).toList := ⟨_, rfl⟩
            have hZ1l : Z1.length = (c + 1 - k) * e'.size := by rw [hZ1]; exact hzl _
            have hZ2l : Z2.length = (G - (c + 1)) * e'.size := by rw [hZ2]; exact hzl _
            have hm4 : (c + 1 - k) * e'.size = e'.size + (c - k) * e'.size := by
              rw [show c + 1 - k = 1 + (c - k) by omega, Nat.add_mul, Nat.one_mul]
            have hrow : (us.take (k * e'.size)).toArray ++ Builtin.zeroCells z.cells (c + 1 - k) ++ Builtin.zeroCells z.cells (G - (c + 1)) = (us.take (k * e'.size) ++ (Z1.take e'.size) ++ (Z1.drop e'.size ++ Z2)).toArray := by
              rw [hZ1, hZ2]
              apply Array.toList_inj.1
              simp only [Array.toList_append, List.append_assoc]
              rw [← List.append_assoc (List.take e'.size _), List.take_append_drop]
            rw [hrow] at hrz
            have htl : (us.take (k * e'.size)).length = k * e'.size := by rw [List.length_take, Nat.min_eq_left (by omega)]
            have hNlt : ∀ j, j < (c + 1) * e'.size → ((w.drew.alloc (.cells (us.take (k * e'.size) ++ (Z1.take e'.size) ++ (Z1.drop e'.size ++ Z2)).toArray e0)).cell? ⟨w.heap.size, j, none⟩).isSome = true := fun j hj => by
              have := World.cell?_alloc_new (w := w.drew) (us.take (k * e'.size) ++ (Z1.take e'.size) ++ (Z1.drop e'.size ++ Z2)).toArray e0 j
              rw [show w.drew.heap.size = w.heap.size from rfl] at this
              rw [this, List.getElem?_toArray, List.getElem?_eq_getElem (by
                simp only [List.length_append, List.length_take, List.length_drop, hZ1l, hZ2l, hulen]
                rw [Nat.add_mul, Nat.one_mul] at hj
                rw [Nat.min_eq_left (by omega), Nat.min_eq_left (by omega)]
                omega)]
              rfl
            have hBlt : B < w.heap.size := H0.lt hr0
            have hBlt' : B' < w.heap.size := H1.lt hr1
            obtain ⟨W1, hW1⟩ : ∃ W1, W1 = w.drew.alloc (.cells (us.take (k * e'.size) ++ (Z1.take e'.size) ++ (Z1.drop e'.size ++ Z2)).toArray e0) := ⟨_, rfl⟩
            rw [← hW1] at hrz hNlt
            have hcold : ∀ b q, b < w.heap.size → W1.cell? ⟨b, q, none⟩ = w.cell? ⟨b, q, none⟩ := fun b q hb => by
              rw [hW1]
              exact World.cell?_of_block (w := w) (heap_alloc_old w.drew _ _ hb)
            have hNf : ∀ j, W1.frozen? ⟨w.heap.size, j, none⟩ = false := fun j => by rw [hW1]; exact World.frozen?_alloc_new _ _ _ _
            have hcp1 : ∀ ty dc, (Builtin.copy_ #[T, T] ty #[.slice (some ⟨w.heap.size, k * e'.size, none⟩) (c + 1 - k) dc, .slice (some ⟨B', o' + 0, none⟩) 1 1]).run P W1 = .ok (goInt ((1 : Nat) : Int)) (W1.setCells w.heap.size (k * e'.size) xs) := fun ty dc =>
              run_copyN W1 T T ty e0 w.heap.size (k * e'.size) (c + 1 - k) dc B' (o' + 0) 1 1 xs ht hsz (by simp only [Nat.min_def]; split <;> omega) (by omega)
                (fun j v hj => by rw [hcold _ _ hBlt']; exact hrun1 j v hj) (fun j hj => hNlt _ (by omega)) (fun j hj => hNf _) hx1
            have hcp2 : ∀ ty dc sc, (Builtin.copy_ #[T, T] ty #[.slice (some ⟨w.heap.size, (k + 1) * e'.size, none⟩) (c - k) dc, .slice (some ⟨B, o + k * e'.size, none⟩) (c - k) sc]).run P (W1.setCells w.heap.size (k * e'.size) xs).drew = .ok (goInt ((c - k : Nat) : Int)) ((W1.setCells w.heap.size (k * e'.size) xs).drew.setCells w.heap.size ((k + 1) * e'.size) olds) := fun ty dc sc =>
              run_copyN _ T T ty e0 w.heap.size ((k + 1) * e'.size) (c - k) dc B (o + k * e'.size) (c - k) sc olds ht hsz (by simp only [Nat.min_def]; split <;> omega) holen
                (fun j v hj => by
                  show (W1.setCells w.heap.size (k * e'.size) xs).cell? _ = some v
                  rw [World.cell?_setCells_out _ _ _ _ _ (fun h _ => absurd h (by show B ≠ _; omega)), hcold _ _ hBlt]
                  exact hoc j v hj)
                (fun j hj => by
                  show ((W1.setCells w.heap.size (k * e'.size) xs).cell? _).isSome = true
                  refine isSome_setCells _ _ _ _ _ (hNlt _ ?_)
                  omega)
                (fun j hj => by
                  show (W1.setCells w.heap.size (k * e'.size) xs).frozen? _ = false
                  rw [World.frozen?_setCells]; exact hNf _) ho1
            refine (hGrow B o c c k w.heap.size G ⟨B', o' + 0, none⟩ 1 w W1 _ _ _ _ hk (Nat.le_refl _) (by omega) (by omega) hGn hrz hcp1 hcp2).mono fun e w'' ⟨he, hw⟩ => ?_
            have hw2 : w'' = (w.drew.drew).alloc (.cells ((us.take (k * e'.size) ++ (xs ++ olds)) ++ Z2).toArray e0) := by
              rw [hw, setCells_drew, hW1]
              have a1 := alloc_setCells e0 xs (Z1.take e'.size) (us.take (k * e'.size)) (Z1.drop e'.size ++ Z2) w.drew (by rw [List.length_take, hZ1l, hcl]; omega)
              rw [htl, show w.drew.heap.size = w.heap.size from rfl] at a1
              rw [a1]
              have a2 := alloc_setCells e0 olds (Z1.drop e'.size) (us.take (k * e'.size) ++ xs) Z2 w.drew (by rw [List.length_drop, hZ1l, holen]; omega)
              rw [List.length_append, htl, hcl, ← hm3, show w.drew.heap.size = w.heap.size from rfl] at a2
              rw [← List.append_assoc (us.take (k * e'.size) ++ xs), a2]
              simp only [List.append_assoc]
              rfl
            have hP := ((fork_new (ty := e0) (x := .tbl false e' (l.take k ++ x :: l.drop k)) (cs := flat e' (l.take k ++ x :: l.drop k)) (vs := us.take (k * e'.size) ++ (xs ++ olds)) (rest := Z2) ((hi.hr.drew (w.drawn + 1)).drew (w.drawn + 1 + 1)) hag (Kept.kill (b := 0) (by rw [hρ0]; simp)) (hfr _) rfl
              (by rw [flat_append, flat_take]; exact (hus.take _).append (hxs.append hoR))).from_drew).from_drew
            subst hw2
            refine ⟨_, _, he, hP.toC hi (Nat.le_refl _), ?_⟩
            simp only [Rel]
            refine ⟨_, _, _, Rho.put_same _ _ _, .inr ⟨G, by simp [Cap.top], by simpa [Cap.top] using hGn, trivial, ?_, .inl (by simp)⟩⟩
            simp only [List.length_append, htl, hcl, holen, hZ2l]
            rw [Nat.zero_mul, Nat.zero_add]
            have : G * e'.size = (c + 1) * e'.size + (G - (c + 1)) * e'.size := by rw [← Nat.add_mul]; congr 1; omega
            rw [this, Nat.add_mul, Nat.one_mul]
            omega
        · simp [Cap.top] at hc2
          omega
    · cases eR
  · cases eR
end Go.Sy
