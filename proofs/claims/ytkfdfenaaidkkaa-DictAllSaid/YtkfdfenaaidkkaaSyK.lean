/- append: the model carries it out as the symbolic machine says. -/
import Derived.Test.YtkfdfenaaidkkaaSyJ
set_option linter.unusedSimpArgs false
set_option linter.unusedVariables false
namespace Go.Sy
open Go

section
variable {P : Program} {ρ : Rho} {h : Hp} {w : World} {s : St}

/-- An entry that may be given up. -/
def Kept (ρ : Rho) (s s0 : St) : Prop := s0.length = s.length ∧ ∀ i, i < s.length → s0[i]? = s[i]? ∨ (s0[i]? = some .dead ∧ ρ i ≠ none)
theorem Kept.self : Kept ρ s s := ⟨rfl, fun i _ => .inl rfl⟩
theorem Kept.kill {b : Nat} (hb : ρ b ≠ none) : Kept ρ s (kill s b) := ⟨by simp [Sy.kill], fun i hi => by
  unfold Sy.kill
  by_cases e : b = i
  · subst e; exact .inr ⟨by rw [List.getElem?_set_self hi], hb⟩
  · exact .inl (by rw [List.getElem?_set_ne e])⟩
theorem Kept.upd {s0 : St} (k : Kept ρ s s0) (ha : Agree s h) {x : Ent} {i : Nat} {y : Ent} {v : Bool × List AV} (h3 : Sy.upd (s0 ++ [x]) h i = some y) (hi : i ≠ s.length) (hv : y.view = some v) : h i = some y := by
  unfold Sy.upd at h3
  split at h3
  · rename_i hlt
    simp only [List.length_append, List.length_cons, List.length_nil, k.1] at hlt
    have hil : i < s.length := by omega
    rw [List.getElem?_append_left (by rw [k.1]; exact hil)] at h3
    rcases k.2 i hil with e | ⟨e, _⟩
    · rw [ha i hil, ← e]; exact h3
    · rw [e] at h3; cases h3; simp [Ent.view] at hv
  · exact h3

theorem fork_new (hr : HR ρ h w) (ha : Agree s h) {s0 : St} (k : Kept ρ s s0) {x : Ent} {cs : List AV} {vs rest : List Value} {ty : TypeId} (hf : Fresh ρ s (s0 ++ [x])) (hx : x.view = some (false, cs)) (hrel : Rels ρ cs vs) :
    Post ρ h w s (ρ.put s.length (w.heap.size, 0, vs.length + rest.length)) (upd (s0 ++ [x]) h) (w.alloc (.cells (vs ++ rest).toArray ty)) (s0 ++ [x]) := by
  have hρn : ρ s.length = none := hf _ (Nat.le_refl _) (by simp [k.1])
  have hle : ρ.le (ρ.put s.length (w.heap.size, 0, vs.length + rest.length)) := Rho.put_le (.inl hρn)
  have hcell : ∀ o, w.cell? ⟨w.heap.size, o, none⟩ = none := fun o => by
    cases e : w.cell? ⟨w.heap.size, o, none⟩ with
    | none => rfl
    | some v => have := cell_lt e; omega
  refine post1 (x0 := x) hr ha hf (.inl ⟨hρn, Nat.le_refl _⟩) (by simp [k.1]) (by rw [← k.1]; simp) (by simp [k.1]) (fun i hi hne => by rw [List.getElem?_append_left (by rw [k.1]; exact hi)]; exact k.2 i hi)
    (fun ro cs' e => by rw [hx] at e; cases e; exact Holds.fresh (Rels.mono hle _ _ hrel))
    (fun h0 i o r y v hi h1 h2 h3 h4 => ?_) (fun _ o => ?_) (fun B hB _ => heap_alloc_old w _ _ hB) (by simp) rfl rfl rfl (fun _ B hB _ => by omega)
  · have hy := k.upd ha h3 hi h4
    obtain ⟨ro, cs'⟩ := v
    have := (hr.cell i _ o r y ro cs' h1 hy h4).lt h2
    omega
  · cases e : ρ.fz w.heap.size o with
    | none => rfl
    | some v => have := hr.fzh _ _ _ e; rw [hcell] at this; cases this

theorem fork_nil (hr : HR ρ h w) (ha : Agree s h) {s0 : St} (k : Kept ρ s s0) {x : Ent} (hf : Fresh ρ s (s0 ++ [x])) (hx : x.view = some (false, [])) :
    Post ρ h w s (ρ.put s.length (0, 0, 0)) (upd (s0 ++ [x]) h) w (s0 ++ [x]) := by
  have hρn : ρ s.length = none := hf _ (Nat.le_refl _) (by simp [k.1])
  exact post1 (x0 := x) hr ha hf (.inl ⟨hρn, Nat.le_refl _⟩) (by simp [k.1]) (by rw [← k.1]; simp) (by simp [k.1]) (fun i hi hne => by rw [List.getElem?_append_left (by rw [k.1]; exact hi)]; exact k.2 i hi)
    (fun ro cs' e => by rw [hx] at e; cases e; exact Holds.nothing)
    (fun h0 => absurd rfl h0) (fun h0 => absurd rfl h0) (fun B hB _ => rfl) (Nat.le_refl _) rfl rfl rfl (fun h0 => absurd rfl h0)

theorem fork_in (hr : HR ρ h w) (ha : Agree s h) {b B o r k q : Nat} {x0 x : Ent} {cs as : List AV} {vs : List Value} (hb : s[b]? = some x0) (hv : x0.view = some (false, cs)) (hρ : ρ b = some (B, o, r))
    (hf : Fresh ρ s (kill s b ++ [x])) (hx : x.view = some (false, as)) (hlen : as.length = q + vs.length) (hrel : ∀ us, Rels ρ cs us → Rels ρ as ((us.drop k).take q ++ vs)) (hone : ∀ v ∈ vs, v.oneCell' = true) (hkq : k + q ≤ cs.length) (hfit : k + q + vs.length ≤ r) :
    (storeCells ⟨B, o + (k + q), none⟩ vs).run P w = .ok () (w.setCells B (o + (k + q)) vs) ∧
      Post ρ h w s (ρ.put s.length (B, o + k, r - k)) (upd (kill s b ++ [x]) h) (w.setCells B (o + (k + q)) vs) (kill s b ++ [x]) := by
  have hρb : ρ b ≠ none := by rw [hρ]; simp
  have kp : Kept ρ s (kill s b) := Kept.kill hρb
  have hρn : ρ s.length = none := hf _ (Nat.le_refl _) (by simp [kp.1])
  have hle : ρ.le (ρ.put s.length (B, o + k, r - k)) := Rho.put_le (.inl hρn)
  have hbl : b < s.length := (List.getElem?_eq_some_iff.1 hb).1
  have hhb : h b = some x0 := by rw [ha b hbl]; exact hb
  have H := hr.cell b B o r x0 false cs hρ hhb hv
  have henv := setCells_env B vs (o + (k + q)) w
  constructor
  · have := run_storeCells_cells (P := P) B (o + (k + q)) vs 0 w
      (fun j hj => by rw [show o + (k + q) + 0 + j = o + (k + q + j) by omega]; exact H.there _ (by omega))
      (fun j hj => by rw [show o + (k + q) + 0 + j = o + (k + q + j) by omega]; exact H.free rfl (by omega) _)
      hone
    simpa using this
  · have hr0 : r - k ≠ 0 → r ≠ 0 := fun e => by omega
    refine post1 (x0 := x) hr ha hf (.inl ⟨hρn, Nat.le_refl _⟩) (by simp [kp.1]) (by rw [← kp.1]; simp) (by simp [kp.1]) (fun i hi hne => by rw [List.getElem?_append_left (by rw [kp.1]; exact hi)]; exact kp.2 i hi)
      (fun ro cs' e => by rw [hx] at e; cases e; exact (H.extended rfl hlen hrel hkq hfit).mono hle)
      (fun h0 i o' r' y v hi h1 h2 h3 h4 => ?_) (fun h0 => (hr.alone hρ hhb hv (hr0 h0)).2.1) (fun B' hB hne => ?_) (by rw [setCells_size]; exact Nat.le_refl _) henv.1 henv.2.1 henv.2.2
      (fun h0 B' hB hF => (hr.alone hρ hhb hv (hr0 h0)).2.2 B' hF)
    · have hy := kp.upd ha h3 hi h4
      by_cases hib : i = b
      · subst hib
        rw [upd_lt (by simp [kp.1]; omega), List.getElem?_append_left (by rw [kp.1]; exact hbl)] at h3
        unfold kill at h3
        rw [List.getElem?_set_self hbl] at h3
        cases h3
        simp [Ent.view] at h4
      · exact (hr.alone hρ hhb hv (hr0 h0)).1 i o' r' y v hib h1 h2 hy h4
    · rcases hne with hne | h0
      · exact setCells_heap_other _ _ _ _ _ hne
      · have : vs = [] := by apply List.eq_nil_of_length_eq_zero; omega
        subst this; rfl

/-- Behind a slice of which nothing else is known than its length. -/
theorem append_tight (hr : HR ρ h w) (ha : Agree s h) {t u0 ty e0 : TypeId} {d : TypeDesc} (ht : P.underlying t = some (.slice e0)) (hu : P.underlying u0 = some d) (hd : ∀ k, d ≠ .int k) {sh : Sh} {by_ : Nat} (hsh : shT P e0 = some sh) (hby : bytesA P e0 = some by_)
    {xu su : Value} {new old : List D} {vs : List Value} (hS : SrcOk P ρ w sh xu new vs) (hb0 : 0 < by_) (hbytes : (3 * (old.length + new.length) + 2000) * by_ ≤ 281474976710656)
    {s0 : St} (kp : Kept ρ s s0) (hf : Fresh ρ s (s0 ++ [.tbl false sh (old ++ new)])) {nn : Bool} (hnn : nn = true → su ≠ .slice none 0 0 ∨ 0 < new.length)
    (hcase : (old = [] ∧ su = .slice none 0 0) ∨
      (∃ b B o r k x0 cs c, s[b]? = some x0 ∧ x0.view = some (false, cs) ∧ ρ b = some (B, o, r) ∧ s0 = kill s b ∧ k + old.length * sh.size ≤ cs.length ∧ (∀ us, Rels ρ cs us → Rels ρ (flat sh old) ((us.drop k).take (old.length * sh.size))) ∧ k + c * sh.size ≤ r ∧ old.length ≤ c ∧ su = .slice (some ⟨B, o + k, none⟩) old.length c) ∨
      (∃ b B o r x0 cs y, old = [] ∧ s[b]? = some x0 ∧ x0.view = some (false, cs) ∧ ρ b = some (B, o, r) ∧ s0 = kill s b ∧ su = .slice (some ⟨B, y, none⟩) 0 0) ∨
      (∃ p c, su = .slice p old.length c ∧ ¬ old.length + new.length ≤ c ∧ ∃ us, Rels ρ (flat sh old) us ∧ (Builtin.firstCells sh.size old.length su).run P w.drew = .ok us.toArray w.drew)) :
    ∃ r w' ρ', (Builtin.append_ #[t, u0] ty #[su, xu]).run P w = .ok r w' ∧ Post ρ h w s ρ' (upd (s0 ++ [.tbl false sh (old ++ new)]) h) w' (s0 ++ [.tbl false sh (old ++ new)]) ∧ Rel ρ' (.tsl nn sh s.length 0 (old.length + new.length) .tight) r := by
  obtain ⟨hsz, z, hz, hzl, _⟩ := shT_some hsh
  have hvl := hS.rel.length
  rw [flat_length] at hvl
  have hnews : (Builtin.firstCells sh.size new.length xu).run P w = .ok vs.toArray w := by
    have : (Builtin.firstCells sh.size new.length xu).run P w = .ok (vs.take (new.length * sh.size)).toArray w := hS.run w.drawn _ (Nat.le_refl _)
    rwa [List.take_of_length_le (by omega)] at this
  have hnews' : (Builtin.firstCells sh.size new.length xu).run P w.drew = .ok vs.toArray w.drew := by
    have : (Builtin.firstCells sh.size new.length xu).run P w.drew = .ok (vs.take (new.length * sh.size)).toArray w.drew := hS.run (w.drawn + 1) _ (Nat.le_refl _)
    rwa [List.take_of_length_le (by omega)] at this
  -- a new array
  have out : ∀ (p : Option Addr) (c : Nat) (us : List Value), su = .slice p old.length c → ¬ old.length + new.length ≤ c → Rels ρ (flat sh old) us → (Builtin.firstCells sh.size old.length su).run P w.drew = .ok us.toArray w.drew →
      ∃ r w' ρ', (Builtin.append_ #[t, u0] ty #[su, xu]).run P w = .ok r w' ∧ Post ρ h w s ρ' (upd (s0 ++ [.tbl false sh (old ++ new)]) h) w' (s0 ++ [.tbl false sh (old ++ new)]) ∧ Rel ρ' (.tsl nn sh s.length 0 (old.length + new.length) .tight) r := by
    intro p c us hsu hno hus hold
    subst hsu
    have hul := hus.length
    rw [flat_length] at hul
    obtain ⟨newCap, rest, hc1, hc2, hrun⟩ := run_append_out (ty := ty) (w := w) (olds := us) (news := vs) ht hu hd hsz hby hz hzl hS.len hold hnews' hno hb0 hbytes
    have hP := fork_new (ty := e0) (rest := rest) (hr.drew (w.drawn + 1)) ha kp hf rfl (by rw [flat_append]; exact hus.append hS.rel)
    refine ⟨_, _, _, hrun, hP.from_drew, ?_⟩
    simp only [Rel]
    refine ⟨_, _, _, Rho.put_same _ _ _, .inr ⟨newCap, by simp [Cap.top], by simpa [Cap.top] using hc1, trivial, ?_, .inl (by simp)⟩⟩
    simp only [List.length_append, hul, hvl, hc2]
    rw [Nat.zero_mul, Nat.zero_add, ← Nat.add_mul, ← Nat.add_mul]
    exact Nat.mul_le_mul_right _ (by omega)
  have nothing : ∀ v, (v = Value.slice none 0 0 ∨ ∃ B y, v = Value.slice (some ⟨B, y, none⟩) 0 0 ∧ False) → old = [] → new.length = 0 → True := fun _ _ _ _ => trivial
  rcases hcase with ⟨rfl, rfl⟩ | ⟨b, B, o, r, k, x0, cs, c, hb, hv, hρ, rfl, hk, hcs, hfit, hoc, rfl⟩ | ⟨b, B, o, r, x0, cs, y, rfl, hb, hv, hρ, rfl, rfl⟩ | ⟨p, c, hsu, hno, us, hus, hold⟩
  · rcases Nat.eq_zero_or_pos new.length with h0 | h0
    · have hnil : new = [] := List.eq_nil_of_length_eq_zero h0
      subst hnil
      have hvn : vs = [] := by apply List.eq_nil_of_length_eq_zero; simpa using hvl
      subst hvn
      have hrun := run_append_in (P := P) (ty := ty) (base := none) (sLen := 0) (sCap := 0) (w' := w) ht hu hd hsz hS.len hnews (Nat.le_refl 0) rfl
      refine ⟨_, _, _, hrun, fork_nil hr ha kp hf (by simp [Ent.view, flat]), ?_⟩
      simp only [Rel]
      refine ⟨0, 0, 0, Rho.put_same _ _ _, .inl ⟨?_, rfl, rfl, rfl, rfl⟩⟩
      cases nn with
      | false => rfl
      | true => rcases hnn rfl with e | e
                · exact absurd rfl e
                · simp at e
    · exact out none 0 [] rfl (by simp only [List.length_nil]; omega) Rels.nil (by simp [Builtin.firstCells])
  · by_cases hin : old.length + new.length ≤ c
    · have hmul : (old.length + new.length) * sh.size ≤ c * sh.size := Nat.mul_le_mul_right _ hin
      rw [Nat.add_mul] at hmul
      obtain ⟨h1, h2⟩ := fork_in (P := P) (k := k) (q := old.length * sh.size) hr ha hb hv hρ hf rfl (by rw [flat_length, List.length_append, Nat.add_mul]; omega) (fun us hus => by rw [flat_append]; exact (hcs us hus).append hS.rel) (hS.rel.oneCell (scalars_flat _ _)) hk (by omega)
      refine ⟨_, _, _, run_append_in (ty := ty) (w' := w.setCells B (o + (k + old.length * sh.size)) vs) ht hu hd hsz hS.len hnews hin ?_, h2, ?_⟩
      · simp only [Addr.add_lit]
        rw [show o + k + old.length * sh.size = o + (k + old.length * sh.size) by omega]
        exact h1
      · simp only [Rel]
        refine ⟨_, _, _, Rho.put_same _ _ _, .inr ⟨c, by simp [Cap.top], by simpa [Cap.top] using hin, trivial, by omega, .inl (by simp)⟩⟩
    · have hbl : b < s.length := (List.getElem?_eq_some_iff.1 hb).1
      have H := (hr.drew (w.drawn + 1)).cell b B o r x0 false cs hρ (by rw [ha b hbl]; exact hb) hv
      obtain ⟨us, u1, u2, _⟩ := H.vals
      have hul := u1.length
      refine out _ c ((us.drop k).take (old.length * sh.size)) rfl hin (hcs us u1) ?_
      simp only [Builtin.firstCells]
      have := run_loadCells_list (P := P) w.drew ⟨B, o + k, none⟩ ((us.drop k).take (old.length * sh.size)) (fun j v hj => by
        rw [Addr.add_lit, Nat.add_assoc]
        apply u2
        rw [List.getElem?_take] at hj
        split at hj
        · rwa [List.getElem?_drop] at hj
        · cases hj)
      rw [show ((us.drop k).take (old.length * sh.size)).length = old.length * sh.size by simp; omega] at this
      exact this
  · rcases Nat.eq_zero_or_pos new.length with h0 | h0
    · have hnil : new = [] := List.eq_nil_of_length_eq_zero h0
      subst hnil
      have hvn : vs = [] := by apply List.eq_nil_of_length_eq_zero; simpa using hvl
      subst hvn
      have hrun := run_append_in (P := P) (ty := ty) (base := some ⟨B, y, none⟩) (sLen := 0) (sCap := 0) (w' := w) ht hu hd hsz hS.len hnews (Nat.le_refl 0) (by simp [storeCells])
      have hbl : b < s.length := (List.getElem?_eq_some_iff.1 hb).1
      have H := hr.cell b B o r x0 false cs hρ (by rw [ha b hbl]; exact hb) hv
      obtain ⟨_, h2⟩ := fork_in (P := P) (k := 0) (q := 0) (as := flat sh []) (vs := []) hr ha hb hv hρ hf (by simp [Ent.view, flat]) (by simp [flat]) (fun us hus => by simpa [flat] using Rels.nil) (fun v hv => by simp at hv) (by omega) (by simp)
      refine ⟨_, _, _, hrun, h2, ?_⟩
      simp only [Rel]
      exact ⟨_, _, _, Rho.put_same _ _ _, .inr ⟨0, by simp [Cap.top], by simp [Cap.top], trivial, by omega, .inr ⟨rfl, y, rfl⟩⟩⟩
    · exact out _ 0 [] rfl (by simp only [List.length_nil]; omega) Rels.nil (by simp [Builtin.firstCells, loadCells, loadCellsFrom])
  · exact out p c us hsu hno hus hold

theorem freeze_cells {b : Nat} {cs : List AV} : ∀ (fr : List Nat) (s : St), (freeze s fr)[b]? = some (.cells cs) → s[b]? = some (.cells cs)
  | [], s, h => h
  | c :: l, s, h => by
    simp only [freeze] at h
    split at h
    · rename_i x hx
      have := freeze_cells l _ h
      rw [List.getElem?_set] at this
      split at this
      · split at this
        · cases x <;> simp [freezeE] at this
        · cases this
      · exact this
    · exact freeze_cells l s h

theorem freeze_append : ∀ (fr fr' : List Nat) (s : St), freeze (freeze s fr) fr' = freeze s (fr ++ fr')
  | [], fr', s => rfl
  | b :: bs, fr', s => by
    simp only [freeze, List.cons_append]
    split
    · exact freeze_append bs fr' _
    · exact freeze_append bs fr' s

/-- Where there is room, surely. -/
theorem append_room (hr : HR ρ h w) (ha : Agree s h) {t u0 ty e0 : TypeId} {td : TypeDesc} (ht : P.underlying t = some (.slice e0)) (hu : P.underlying u0 = some td) (hd : ∀ k, td ≠ .int k) {sh : Sh} (hsh : shT P e0 = some sh)
    {xu su : Value} {new l : List D} {vs : List Value} (hS : SrcOk P ρ w sh xu new vs) {nn : Bool} {b off len : Nat} {cap : Cap} (hb : s[b]? = some (.tbl false sh l)) (hs : Rel ρ (.tsl nn sh b off len cap) su) (hroom : len + new.length ≤ cap.top len) (hcap : cap.top (len + new.length) = cap.top len) (hfit : off + len + new.length ≤ l.length) :
    ∃ r w', (Builtin.append_ #[t, u0] ty #[su, xu]).run P w = .ok r w' ∧ Post ρ h w s ρ (upd (s.set b (.tbl false sh (l.take (off + len) ++ (new ++ l.drop (off + len + new.length))))) h) w' (s.set b (.tbl false sh (l.take (off + len) ++ (new ++ l.drop (off + len + new.length))))) ∧
      Rel ρ (.tsl nn sh b off (len + new.length) cap) r := by
  obtain ⟨hsz, _⟩ := shT_some hsh
  have hvl := hS.rel.length
  rw [flat_length] at hvl
  have hnews : (Builtin.firstCells sh.size new.length xu).run P w = .ok vs.toArray w := by
    have : (Builtin.firstCells sh.size new.length xu).run P w = .ok (vs.take (new.length * sh.size)).toArray w := hS.run w.drawn _ (Nat.le_refl _)
    rwa [List.take_of_length_le (by omega)] at this
  simp only [Rel] at hs
  obtain ⟨B, o, r, hρ, hs⟩ := hs
  obtain ⟨h1, h2⟩ := write_post (P := P) (off := (off + len) * sh.size) (x' := .tbl false sh (l.take (off + len) ++ (new ++ l.drop (off + len + new.length)))) (cs' := flat sh (l.take (off + len) ++ (new ++ l.drop (off + len + new.length)))) (vs := vs) hr ha hb rfl hρ
    (by rw [hvl, flat_length, ← Nat.add_mul]; exact Nat.mul_le_mul_right _ hfit)
    (hS.rel.oneCell (scalars_flat _ _))
    (by rw [flat_length, flat_length]; congr 1; simp; omega)
    (fun us hus => flat_mid hus hS.rel) rfl
  rcases hs with ⟨rfl, rfl, ht0, hr0, rfl⟩ | ⟨c, hlt, htop, hex, hfc, hs⟩
  · have hm0 : new.length = 0 := by omega
    have hnil : new = [] := List.eq_nil_of_length_eq_zero hm0
    subst hnil
    have hvn : vs = [] := by apply List.eq_nil_of_length_eq_zero; simpa using hvl
    subst hvn
    refine ⟨_, _, run_append_in (ty := ty) (base := none) (sLen := 0) (sCap := 0) (w' := w) ht hu hd hsz hS.len hnews (Nat.le_refl 0) rfl, h2, ?_⟩
    simp only [Rel]
    exact ⟨B, o, r, hρ, .inl ⟨trivial, rfl, ht0, hr0, rfl⟩⟩
  · rcases hs with rfl | ⟨rfl, y, rfl⟩
    · refine ⟨_, _, run_append_in (ty := ty) (w' := w.setCells B (o + (off + len) * sh.size) vs) ht hu hd hsz hS.len hnews (by omega) ?_, h2, ?_⟩
      · simp only [Addr.add_lit]
        rw [show o + off * sh.size + len * sh.size = o + (off + len) * sh.size by rw [Nat.add_mul]; omega]
        exact h1
      · simp only [Rel]
        exact ⟨B, o, r, hρ, .inr ⟨c, by rw [hcap]; exact hroom, by rw [hcap]; exact htop, hex, hfc, .inl rfl⟩⟩
    · have hm0 : new.length = 0 := by omega
      have hlen0 : len = 0 := by omega
      have hnil : new = [] := List.eq_nil_of_length_eq_zero hm0
      subst hnil
      subst hlen0
      have hvn : vs = [] := by apply List.eq_nil_of_length_eq_zero; simpa using hvl
      subst hvn
      refine ⟨_, _, run_append_in (ty := ty) (base := some ⟨B, y, none⟩) (sLen := 0) (sCap := 0) (w' := w) ht hu hd hsz hS.len hnews (Nat.le_refl 0) (by simp [storeCells]), h2, ?_⟩
      simp only [Rel]
      exact ⟨B, o, r, hρ, .inr ⟨0, hlt, htop, hex, hfc, .inr ⟨rfl, y, rfl⟩⟩⟩

theorem append_sound (hr : HR ρ h w) (ha : Agree s h) {t u0 ty e0 : TypeId} {td : TypeDesc} {d x v : AV} {su xu : Value} {s' : St} {tch : List Nat} (ht : P.underlying t = some (.slice e0)) (hu : P.underlying u0 = some td) (hd : ∀ k, td ≠ .int k)
    (e : (appendS P s e0 d x).run = some (v, s', tch)) (hs : Rel ρ d su) (hx : Rel ρ x xu) (hf : Fresh ρ s s') :
    ∃ r w' ρ', (Builtin.append_ #[t, u0] ty #[su, xu]).run P w = .ok r w' ∧ Post ρ h w s ρ' (upd s' h) w' s' ∧ Rel ρ' v r := by
  unfold appendS at e
  split at e
  · rename_i sh by_ hsh hby
    split at e
    · cases e
    · rename_i g new fr sure hsrc
      have hids := src_ids (hr.cellsOf ha) hsrc hx
      obtain ⟨ρ1, hp1, hat, hF⟩ := freeze_post fr hr ha hids
      have hfl : (freeze s fr).length = s.length := freeze_length fr s
      have hs1 := Rel.mono hp1.ext _ _ hs
      have hx1 := Rel.mono hp1.ext _ _ hx
      have src : g = true → ∃ vs, SrcOk P ρ1 w sh xu new vs := fun hg => by
        subst hg
        exact (src_sound (P := P) w hr ha hsrc hx hp1.ext hp1.hr.fzh hF).1
      have surel : sure = true → g = true → 0 < new.length := fun h1 hg => by
        subst hg
        exact (src_sound (P := P) w hr ha hsrc hx hp1.ext hp1.hr.fzh hF).2 h1
      simp only at e
      split at e
      · -- onto nothing
        obtain ⟨hg, rfl, rfl, rfl⟩ := run_ok e
        simp only [Bool.and_eq_true] at hg
        obtain ⟨hg0, hby0, hbytes⟩ := hg
        have hb0 : 0 < by_ := by simpa [Nat.blt_eq] using hby0
        have hbytes := Nat.le_of_ble_eq_true hbytes
        obtain ⟨vs, hS⟩ := src hg0
        simp only [Rel] at hs
        subst hs
        obtain ⟨r, w', ρ', h1, h2, h3⟩ := append_tight (P := P) (ty := ty) (old := []) (nn := sure) hp1.hr hp1.agree ht hu hd hsh hby hS hb0 (by simpa using hbytes) Kept.self (Fresh.next hp1 (by simpa using hf) (by simp)) (fun h => .inr (surel h hg0)) (.inl ⟨rfl, rfl⟩)
        have h4 := hp1.trans h2
        rw [upd_upd (by simp)] at h4
        exact ⟨r, w', ρ', h1, by simpa using h4, by simpa using h3⟩
      · -- onto a literal
        rename_i b off len cap
        split at e
        · rename_i cs hlc hb
          have hlc := beq_true_eq hlc
          subst hlc
          split at e
          · rename_i l0 hl
            split at e
            · rename_i g1 old fr' hc
              split at e
              · rename_i cs2 hb2
                obtain ⟨hg, rfl, rfl, rfl⟩ := run_ok e
                simp only [Bool.and_eq_true] at hg
                obtain ⟨⟨hg0, hg1⟩, hby0, hbytes⟩ := hg
                subst hg1
                have hb0 : 0 < by_ := by simpa [Nat.blt_eq] using hby0
                have hbytes := Nat.le_of_ble_eq_true hbytes
                subst hg0
                simp only [Rel] at hs
                obtain ⟨B, o, r, hρ, _, rfl⟩ := hs
                have hbl : b < s.length := (List.getElem?_eq_some_iff.1 hb).1
                have H := hr.cell b B o r _ false _ hρ (by rw [ha b hbl]; exact hb) rfl
                obtain ⟨us0, u1, _, _⟩ := H.vals
                obtain ⟨hle0, rfl⟩ := readL_some hl
                have hids' := (els_ids (fun cells vs g d rest fr => coll_ids (hr.cellsOf ha) sh cells vs g d rest fr) _ _ _ _ _ [] fr' hc ((u1.drop off).take _)).1
                obtain ⟨ρ2, hp2, hat2, hF2⟩ := freeze_post (fr ++ fr') hr ha (fun b' hb' => (List.mem_append.1 hb').elim (hids b') (hids' b'))
                obtain ⟨⟨vs, hS⟩, _⟩ := src_sound (P := P) w hr ha hsrc hx hp2.ext hp2.hr.fzh hF2.left
                rw [freeze_append] at hb2 hf ⊢
                have hfl2 : (freeze s (fr ++ fr')).length = s.length := freeze_length _ s
                have hcs := freeze_cells _ s hb2
                rw [hb] at hcs
                cases hcs
                have elen : ∀ us, Rels ρ2 cs us → old.length = len ∧ Rels ρ2 (flat sh old) ((us.drop off).take (len * sh.size)) := fun us hus => by
                  obtain ⟨k1, k2, _⟩ := els_sound (ρ := ρ2) (s := s) (R := fun d vs => RelSh ρ2.fz sh d vs) (sz := sh.size) (fun cells vs d rest fr => coll_sound sh cells vs d rest fr) len _ _ old [] fr' hc ((hus.drop off).take (len * sh.size)) hF2.right
                  have hul := hus.length
                  exact ⟨k1, flat_of_els old _ (by rw [k1]; simp; omega) k2⟩
                have hol := (elen us0 (Rels.mono hp2.ext _ _ u1)).1
                have hfitH := H.fit
                obtain ⟨r', w', ρ', h1, h2, h3⟩ := append_tight (P := P) (ty := ty) (old := old) (nn := true) (s0 := kill (freeze s (fr ++ fr')) b) hp2.hr hp2.agree ht hu hd hsh hby hS hb0 hbytes (Kept.kill (by rw [hat2, hρ]; simp)) (su := .slice (some ⟨B, o + off, none⟩) len len) (Fresh.next hp2 hf (by simp [kill])) (fun _ => .inl (by simp))
                  (.inr (.inl ⟨b, B, o, r, off, _, cs, len, hb2, rfl, by rw [hat2]; exact hρ, rfl, by rw [hol]; exact hle0, fun us hus => by rw [hol]; exact (elen us hus).2, by omega, by omega, by rw [hol]⟩))
                have h4 := hp2.trans h2
                rw [upd_upd (by simp [kill])] at h4
                exact ⟨r', w', ρ', h1, h4, h3⟩
              · cases e
            · cases e
          · cases e
        · cases e
      · rename_i nn e' b off len cap
        split at e
        · rename_i ro e'' l hb
          split at e
          · cases e
          · rename_i hbe
            simp only [Bool.and_eq_true] at hbe
            have e1 := Sh.beq_eq _ _ hbe.1
            have e2 := Sh.beq_eq _ _ hbe.2
            subst e1; subst e2
            have hρ1 : ρ1 b ≠ none := by
              have := hs1
              simp only [Rel] at this
              obtain ⟨B, o, r, hρ, _⟩ := this
              rw [hρ]; simp
            split at e
            · -- nothing is known of its room
              split at e
              · cases e
              · obtain ⟨hg, rfl, rfl, rfl⟩ := run_ok e
                simp only [Bool.and_eq_true] at hg
                obtain ⟨⟨hg0, hby0, hbytes⟩, hle⟩ := hg
                have hb0 : 0 < by_ := by simpa [Nat.blt_eq] using hby0
                have hbytes := Nat.le_of_ble_eq_true hbytes
                have hle := Nat.le_of_ble_eq_true hle
                obtain ⟨vs, hS⟩ := src hg0
                have hol : ((l.drop off).take len).length = len := by simp; omega
                have hnn : (nn || sure) = true → su ≠ .slice none 0 0 ∨ 0 < new.length := fun h => by
                  rcases Bool.or_eq_true _ _ ▸ h with h | h
                  · obtain ⟨p, c, rfl⟩ := hs1.tsl_some (.inl h)
                    exact .inl (by simp)
                  · exact .inr (surel h hg0)
                have hs2 := hs1
                simp only [Rel] at hs2
                obtain ⟨B, o, r, hρ, hs2⟩ := hs2
                obtain ⟨r', w', ρ', h1, h2, h3⟩ := append_tight (P := P) (ty := ty) (su := su) (old := (l.drop off).take len) (nn := nn || sure) (s0 := kill (freeze s fr) b) hp1.hr hp1.agree ht hu hd hsh hby hS hb0 (by rw [hol]; exact hbytes) (Kept.kill hρ1) (Fresh.next hp1 hf (by simp [kill])) hnn
                  (by
                    rcases hs2 with ⟨_, rfl, _, _, rfl⟩ | ⟨c, h1, h2, _, hfc, rfl | ⟨rfl, y, rfl⟩⟩
                    · exact .inl ⟨by simp, rfl⟩
                    · refine .inr (.inl ⟨b, B, o, r, off * sh.size, _, flat sh l, c, hb, rfl, hρ, rfl, ?_, fun us hus => ?_, hfc, by rw [hol]; simp only [Cap.top] at *; omega, by rw [hol]⟩)
                      · rw [hol, flat_length, ← Nat.add_mul]; exact Nat.mul_le_mul_right _ hle
                      · rw [hol, flat_take, flat_drop]
                        exact (hus.drop _).take _
                    · have hlen0 : len = 0 := by simp only [Cap.top] at *; omega
                      subst hlen0
                      exact .inr (.inr (.inl ⟨b, B, o, r, _, flat sh l, y, by simp, hb, rfl, hρ, rfl, rfl⟩)))
                have h4 := hp1.trans h2
                rw [upd_upd (by simp [kill])] at h4
                rw [hol] at h3
                exact ⟨r', w', ρ', h1, h4, h3⟩
            · -- room
              rename_i lb
              split at e
              · cases e
              · obtain ⟨hg, rfl, rfl, rfl⟩ := run_ok e
                simp only [Bool.and_eq_true] at hg
                obtain ⟨⟨hg0, hby0, hbytes⟩, hroom, hfit⟩ := hg
                have hroom := Nat.le_of_ble_eq_true hroom
                have hfit := Nat.le_of_ble_eq_true hfit
                obtain ⟨vs, hS⟩ := src hg0
                obtain ⟨r', w', h1, h2, h3⟩ := append_room (P := P) (ty := ty) hp1.hr hp1.agree ht hu hd hsh hS hb hs1 hroom rfl hfit
                have h4 := hp1.trans h2
                rw [upd_upd (by simp)] at h4
                exact ⟨r', w', ρ1, h1, h4, h3⟩
            · rename_i c
              simp only [RT.run] at e
              split at e
              · rename_i hroom
                have hroom := Nat.le_of_ble_eq_true hroom
                split at e
                · cases e
                · obtain ⟨hg, rfl, rfl, rfl⟩ := run_ok e
                  simp only [Bool.and_eq_true] at hg
                  obtain ⟨⟨hg0, hby0, hbytes⟩, hfit⟩ := hg
                  have hfit := Nat.le_of_ble_eq_true hfit
                  obtain ⟨vs, hS⟩ := src hg0
                  obtain ⟨r', w', h1, h2, h3⟩ := append_room (P := P) (ty := ty) hp1.hr hp1.agree ht hu hd hsh hS hb hs1 hroom rfl hfit
                  have h4 := hp1.trans h2
                  rw [upd_upd (by simp)] at h4
                  exact ⟨r', w', ρ1, h1, h4, h3⟩
              · rename_i hroom
                have hno : ¬ len + new.length ≤ c := fun e => by rw [Nat.ble_eq_true_of_le e] at hroom; cases hroom
                obtain ⟨hg, rfl, rfl, rfl⟩ := run_ok e
                simp only [Bool.and_eq_true] at hg
                obtain ⟨⟨hg0, hby0, hbytes⟩, hle⟩ := hg
                have hb0 : 0 < by_ := by simpa [Nat.blt_eq] using hby0
                have hbytes := Nat.le_of_ble_eq_true hbytes
                have hle := Nat.le_of_ble_eq_true hle
                obtain ⟨vs, hS⟩ := src hg0
                have hol : ((l.drop off).take len).length = len := by simp; omega
                have hs2 := hs1
                simp only [Rel] at hs2
                obtain ⟨B, o, r, hρ, hs2⟩ := hs2
                have hbl := (List.getElem?_eq_some_iff.1 hb).1
                have H := (hp1.hr.drew (w.drawn + 1)).cell b B o r (.tbl ro sh l) ro _ hρ (by rw [hp1.agree b hbl]; exact hb) rfl
                obtain ⟨us, u1, u2, u3⟩ := H.read (readL_flat (e := sh) (l := l) hle)
                obtain ⟨r', w', ρ', h1, h2, h3⟩ := append_tight (P := P) (ty := ty) (su := su) (old := (l.drop off).take len) (nn := true) (s0 := freeze s _) hp1.hr hp1.agree ht hu hd hsh hby hS hb0 (by rw [hol]; exact hbytes) Kept.self (Fresh.next hp1 hf (by simp))
                  (fun _ => by
                    rcases hs2 with ⟨_, rfl, h0, _, rfl⟩ | ⟨c', h1, h2, hex, hfc, rfl | ⟨rfl, y, rfl⟩⟩
                    · simp only [Cap.top] at h0; exact .inr (by omega)
                    · exact .inl (by simp)
                    · exact .inl (by simp))
                  (by
                    rcases hs2 with ⟨_, rfl, _, _, rfl⟩ | ⟨c', h1, h2, hex, hfc, rfl | ⟨rfl, y, rfl⟩⟩
                    · exact .inl ⟨by simp, rfl⟩
                    · simp only [Cap.exact] at hex
                      subst hex
                      exact .inr (.inr (.inr ⟨_, c', by rw [hol], by rw [hol]; exact hno, us, u1, by rw [hol]; simp only [Builtin.firstCells]; exact u3 P⟩))
                    · simp only [Cap.exact] at hex
                      subst hex
                      have hlen0 : len = 0 := by simp only [Cap.top] at *; omega
                      subst hlen0
                      refine .inr (.inr (.inr ⟨some ⟨B, y, none⟩, 0, by simp, by simpa using hno, [], by simpa [flat] using Rels.nil, by simp [Builtin.firstCells, loadCells, loadCellsFrom]⟩)))
                have h4 := hp1.trans h2
                rw [upd_upd (by simp)] at h4
                rw [hol] at h3
                exact ⟨r', w', ρ', h1, h4, h3⟩
        · cases e
      · cases e
  · cases e
end
end Go.Sy
