/- Data out of cells; blocks that are not written any more; how arguments are handed on. -/
import Derived.Test.YtkfdfenaaidkkaaSyG
set_option linter.unusedSimpArgs false
set_option linter.unusedVariables false
namespace Go.Sy
open Go

section
variable {ρ : Rho} {s : St}

/-- These blocks are in memory that nobody writes. -/
def FrzAll (ρ : Rho) (s : St) (fr : List Nat) : Prop := ∀ b, b ∈ fr → ∀ x ro cs B o r, s[b]? = some x → x.view = some (ro, cs) → ρ b = some (B, o, r) →
  ∃ vs, Rels ρ cs vs ∧ ∀ (i : Nat) (v : Value), vs[i]? = some v → ρ.fz B (o + i) = some v
theorem FrzAll.left {fr fr' : List Nat} (h : FrzAll ρ s (fr ++ fr')) : FrzAll ρ s fr := fun b hb => h b (List.mem_append_left _ hb)
theorem FrzAll.right {fr fr' : List Nat} (h : FrzAll ρ s (fr ++ fr')) : FrzAll ρ s fr' := fun b hb => h b (List.mem_append_right _ hb)

theorem els_sound {f : List AV → Option (Bool × D × List AV × List Nat)} {R : D → List Value → Prop} {sz : Nat}
    (hf : ∀ cells vs d rest fr, f cells = some (true, d, rest, fr) → Rels ρ cells vs → FrzAll ρ s fr → R d (vs.take sz) ∧ Rels ρ rest (vs.drop sz)) :
    ∀ (n : Nat) (cells : List AV) (vs : List Value) (ds : List D) (rest : List AV) (fr : List Nat), collEls f n cells = some (true, ds, rest, fr) → Rels ρ cells vs → FrzAll ρ s fr →
      ds.length = n ∧ (∀ i d, ds[i]? = some d → R d ((vs.drop (i * sz)).take sz)) ∧ Rels ρ rest (vs.drop (n * sz))
  | 0, cells, vs, ds, rest, fr, e, hr, hF => by
    simp only [collEls] at e; cases e
    exact ⟨rfl, fun i d h => by simp at h, by simpa using hr⟩
  | n + 1, cells, vs, ds, rest, fr, e, hr, hF => by
    simp only [collEls] at e
    split at e
    · cases e
    · rename_i g d r fr1 h1
      split at e
      · cases e
      · rename_i g' ds' r' fr2 h2
        simp only [Option.some.injEq, Prod.mk.injEq, Bool.and_eq_true] at e
        obtain ⟨⟨rfl, rfl⟩, rfl, rfl, rfl⟩ := e
        obtain ⟨k1, k2⟩ := hf _ _ _ _ _ h1 hr hF.left
        obtain ⟨m1, m2, m3⟩ := els_sound hf n r _ ds' r' fr2 h2 k2 hF.right
        refine ⟨by simp [m1], fun i d' hd => ?_, ?_⟩
        · cases i with
          | zero => simp at hd; subst hd; simpa using k1
          | succ i =>
            simp at hd
            have := m2 i d' hd
            rw [List.drop_drop] at this
            rwa [show (i + 1) * sz = sz + i * sz by rw [Nat.add_mul]; omega]
        · rw [List.drop_drop] at m3
          rwa [show (n + 1) * sz = sz + n * sz by rw [Nat.add_mul]; omega]

theorem tsl_fzr {nn : Bool} {e : Sh} {b off len : Nat} {cap : Cap} {v : Value} {ro : Bool} {l : List D} {fr : List Nat} (h : Rel ρ (.tsl nn e b off len cap) v) (hb : s[b]? = some (.tbl ro e l)) (hF : FrzAll ρ s [b]) (hle : off + len ≤ l.length) :
    FzR ρ.fz e.size (RelSh ρ.fz e) false ((l.drop off).take len) v := by
  have hll : ((l.drop off).take len).length = len := by simp; omega
  simp only [Rel] at h
  obtain ⟨B, o, r, hρ, h⟩ := h
  rcases h with ⟨rfl, rfl, _, _, rfl⟩ | ⟨c, hlt, htop, _, hfit, rfl | ⟨rfl, x, rfl⟩⟩
  · exact .inl ⟨rfl, by simp, rfl⟩
  · obtain ⟨vs, h1, h2⟩ := hF b (by simp) _ _ _ _ _ _ hb rfl hρ
    refine .inr ⟨B, o + off * e.size, c, by rw [hll], by rw [hll]; omega, fun i d hd => ?_⟩
    rw [List.getElem?_take] at hd
    split at hd
    · rename_i hi
      rw [List.getElem?_drop] at hd
      have hil : off + i < l.length := by omega
      have hg : l.getD (off + i) .nul = d := by simp [List.getD, hd]
      have h3 := ((h1.drop ((off + i) * e.size)).take e.size)
      rw [flat_getD e l (off + i) hil, hg] at h3
      refine ⟨_, (rels_expand _ _ _).2 h3, fun j u hu => ?_⟩
      rw [List.getElem?_take] at hu
      split at hu
      · rw [List.getElem?_drop] at hu
        have := h2 _ u hu
        rwa [show o + ((off + i) * e.size + j) = o + off * e.size + i * e.size + j by rw [Nat.add_mul]; omega] at this
      · cases hu
    · cases hd
  · have hlen0 : len = 0 := by omega
    subst hlen0
    exact .inr ⟨B, x, 0, by simp, by simp, fun i d hd => by simp at hd⟩

mutual
theorem coll_sound : ∀ (sh : Sh) (cells : List AV) (vs : List Value) (d : D) (rest : List AV) (fr : List Nat), collS s sh cells = some (true, d, rest, fr) → Rels ρ cells vs → FrzAll ρ s fr →
    RelSh ρ.fz sh d (vs.take sh.size) ∧ Rels ρ rest (vs.drop sh.size)
  | .bool, cells, vs, d, rest, fr, e, hr, hF => by
    cases cells with
    | nil => simp [collS] at e
    | cons a cells =>
      cases a <;> simp only [collS, reduceCtorEq] at e
      cases e
      simp only [Rels, Rel] at hr
      obtain ⟨v, us, rfl, rfl, hr⟩ := hr
      exact ⟨by simp [RelSh, Sh.size, D.asBool], by simpa [Sh.size] using hr⟩
  | .int k, cells, vs, d, rest, fr, e, hr, hF => by
    cases cells with
    | nil => simp [collS] at e
    | cons a cells =>
      cases a <;> simp only [collS, reduceCtorEq] at e
      split at e
      · rename_i hk
        have hk' := of_decide_eq_true hk
        cases e
        simp only [Rels, Rel] at hr
        obtain ⟨v, us, rfl, rfl, hr⟩ := hr
        exact ⟨by simp [RelSh, Sh.size, D.asInt, hk'], by simpa [Sh.size] using hr⟩
      · cases e
  | .str, cells, vs, d, rest, fr, e, hr, hF => by
    cases cells with
    | nil => simp [collS] at e
    | cons a cells =>
      cases a <;> simp only [collS, reduceCtorEq] at e
      cases e
      simp only [Rels, Rel] at hr
      obtain ⟨v, us, rfl, rfl, hr⟩ := hr
      exact ⟨by simp [RelSh, Sh.size, D.asStr], by simpa [Sh.size] using hr⟩
  | .slice sh, cells, vs, d, rest, fr, e, hr, hF => by
    cases cells with
    | nil => simp [collS] at e
    | cons a cells =>
      simp only [Rels] at hr
      obtain ⟨v, us, rfl, hv, hr⟩ := hr
      have hdrop : (v :: us).drop (Sh.slice sh).size = us := by simp [Sh.size]
      have htake : (v :: us).take (Sh.slice sh).size = [v] := by simp [Sh.size]
      rw [hdrop, htake]
      cases a <;> simp only [collS, reduceCtorEq] at e
      · cases e
        simp only [Rel] at hv
        subst hv
        exact ⟨by simp [RelSh, D.els, FzR], hr⟩
      · rename_i b off len cap
        split at e
        · rename_i cs hb
          split at e
          · rename_i l0 hl
            split at e
            · rename_i g ds fr1 hc
              simp only [Option.some.injEq, Prod.mk.injEq] at e
              obtain ⟨rfl, rfl, rfl, rfl⟩ := e
              simp only [Rel] at hv
              obtain ⟨B, o, r, hρ, hlc, rfl⟩ := hv
              obtain ⟨vs0, h1, h2⟩ := hF b (by simp) _ _ _ _ _ _ hb rfl hρ
              obtain ⟨hle, rfl⟩ := readL_some hl
              have hF1 : FrzAll ρ s fr1 := fun b' hb' => hF b' (List.mem_cons_of_mem _ hb')
              obtain ⟨k1, k2, k3⟩ := els_sound (R := fun d vs => RelSh ρ.fz sh d vs) (sz := sh.size) (fun cells vs d rest fr => coll_sound sh cells vs d rest fr) len _ _ ds [] fr1 hc ((h1.drop off).take (len * sh.size)) hF1
              refine ⟨?_, hr⟩
              simp only [RelSh, D.els]
              refine ⟨_, rfl, .inr ⟨B, o + off, cap, by rw [k1], by rw [k1]; exact hlc, fun i d hd => ?_⟩⟩
              have hi : i < len := by have := (List.getElem?_eq_some_iff.1 hd).1; omega
              refine ⟨_, k2 i d hd, fun j u hu => ?_⟩
              rw [List.getElem?_take] at hu
              split at hu
              · rw [List.getElem?_drop, List.getElem?_take] at hu
                split at hu
                · rw [List.getElem?_drop] at hu
                  have := h2 _ u hu
                  rwa [show o + (off + (i * sh.size + j)) = o + off + i * sh.size + j by omega] at this
                · cases hu
              · cases hu
            · cases e
          · cases e
        · cases e
      · rename_i nn sh' l
        split at e
        · rename_i hb
          have := Sh.beq_eq _ _ hb
          subst this
          cases e
          simp only [Rel] at hv
          refine ⟨?_, hr⟩
          simp only [RelSh, D.els]
          refine ⟨v, rfl, ?_⟩
          rcases hv with ⟨_, h1, h2⟩ | h
          · exact .inl ⟨rfl, h1, h2⟩
          · exact .inr h
        · cases e
      · rename_i nn sh' b off len cap
        split at e
        · rename_i ro sh'' l hb
          split at e
          · rename_i hbe
            simp only [Bool.and_eq_true] at hbe
            have e1 := Sh.beq_eq _ _ hbe.1
            have e2 := Sh.beq_eq _ _ hbe.2
            subst e1; subst e2
            simp only [Option.some.injEq, Prod.mk.injEq] at e
            obtain ⟨hle, rfl, rfl, rfl⟩ := e
            have hle := Nat.le_of_ble_eq_true hle
            refine ⟨?_, hr⟩
            simp only [RelSh, D.els]
            exact ⟨v, rfl, tsl_fzr (fr := []) hv hb hF hle⟩
          · cases e
        · cases e
  | .struct fs, cells, vs, d, rest, fr, e, hr, hF => by
    simp only [collS] at e
    split at e
    · rename_i g ds r fr1 hc
      simp only [Option.some.injEq, Prod.mk.injEq] at e
      obtain ⟨rfl, rfl, rfl, rfl⟩ := e
      have := colls_sound fs cells vs ds r fr1 hc hr hF
      simp only [RelSh, Sh.size]
      refine ⟨this.1 (.agg ds) 0 (fun i hi => ?_), this.2⟩
      simp [D.fld]
    · cases e
theorem colls_sound : ∀ (fs : List Sh) (cells : List AV) (vs : List Value) (ds : List D) (rest : List AV) (fr : List Nat), collFs s fs cells = some (true, ds, rest, fr) → Rels ρ cells vs → FrzAll ρ s fr →
    (∀ (d : D) (i : Nat), (∀ k, k < fs.length → d.fld (i + k) = ds.getD k .nul) → RelShs ρ.fz fs d i (vs.take (Sh.sizes fs))) ∧ Rels ρ rest (vs.drop (Sh.sizes fs))
  | [], cells, vs, ds, rest, fr, e, hr, hF => by
    simp only [collFs] at e; cases e
    exact ⟨fun d i _ => by simp [RelShs, Sh.sizes], by simpa [Sh.sizes] using hr⟩
  | f :: fs, cells, vs, ds, rest, fr, e, hr, hF => by
    simp only [collFs] at e
    split at e
    · cases e
    · rename_i g d0 r fr1 h1
      split at e
      · cases e
      · rename_i g' ds' r' fr2 h2
        simp only [Option.some.injEq, Prod.mk.injEq, Bool.and_eq_true] at e
        obtain ⟨⟨rfl, rfl⟩, rfl, rfl, rfl⟩ := e
        obtain ⟨k1, k2⟩ := coll_sound f cells vs d0 r fr1 h1 hr hF.left
        obtain ⟨m1, m2⟩ := colls_sound fs r _ ds' r' fr2 h2 k2 hF.right
        refine ⟨fun d i hd => ?_, ?_⟩
        · simp only [RelShs, Sh.sizes]
          refine ⟨vs.take f.size, (vs.drop f.size).take (Sh.sizes fs), ?_, ?_, ?_⟩
          · rw [List.take_add]
          · have := hd 0 (by simp)
            rw [Nat.add_zero] at this
            rw [this]
            simpa using k1
          · refine m1 d (i + 1) (fun k hk => ?_)
            have := hd (k + 1) (by simpa using hk)
            rw [show i + (k + 1) = i + 1 + k by omega] at this
            simpa using this
        · simp only [Sh.sizes]
          rwa [List.drop_drop] at m2
end

/- ### which blocks -/
theorem els_ids {f : List AV → Option (Bool × D × List AV × List Nat)} (hf : ∀ cells vs g d rest fr, f cells = some (g, d, rest, fr) → Rels ρ cells vs → (∀ b ∈ fr, ρ b ≠ none) ∧ ∃ us, Rels ρ rest us) :
    ∀ (n : Nat) (cells : List AV) (vs : List Value) (g : Bool) (ds : List D) (rest : List AV) (fr : List Nat), collEls f n cells = some (g, ds, rest, fr) → Rels ρ cells vs → (∀ b ∈ fr, ρ b ≠ none) ∧ ∃ us, Rels ρ rest us
  | 0, cells, vs, g, ds, rest, fr, e, hr => by simp only [collEls] at e; cases e; exact ⟨fun b hb => by simp at hb, vs, hr⟩
  | n + 1, cells, vs, g, ds, rest, fr, e, hr => by
    simp only [collEls] at e
    split at e
    · cases e
    · rename_i g1 d r fr1 h1
      split at e
      · cases e
      · rename_i g' ds' r' fr2 h2
        cases e
        obtain ⟨k1, us, k2⟩ := hf _ _ _ _ _ _ h1 hr
        obtain ⟨m1, m2⟩ := els_ids hf n r us _ _ _ _ h2 k2
        refine ⟨fun b hb => ?_, m2⟩
        rcases List.mem_append.1 hb with hb | hb
        · exact k1 b hb
        · exact m1 b hb
mutual
theorem coll_ids (hC : ∀ b cs, s[b]? = some (.cells cs) → ρ b ≠ none → ∃ vs, Rels ρ cs vs) : ∀ (sh : Sh) (cells : List AV) (vs : List Value) (g : Bool) (d : D) (rest : List AV) (fr : List Nat), collS s sh cells = some (g, d, rest, fr) → Rels ρ cells vs →
    (∀ b ∈ fr, ρ b ≠ none) ∧ ∃ us, Rels ρ rest us
  | .bool, cells, vs, g, d, rest, fr, e, hr => by
    cases cells with
    | nil => simp [collS] at e
    | cons a cells =>
      cases a <;> simp only [collS, reduceCtorEq] at e
      cases e
      simp only [Rels] at hr
      obtain ⟨v, us, rfl, _, hr⟩ := hr
      exact ⟨fun b hb => by simp at hb, us, hr⟩
  | .int k, cells, vs, g, d, rest, fr, e, hr => by
    cases cells with
    | nil => simp [collS] at e
    | cons a cells =>
      cases a <;> simp only [collS, reduceCtorEq] at e
      split at e
      · cases e
        simp only [Rels] at hr
        obtain ⟨v, us, rfl, _, hr⟩ := hr
        exact ⟨fun b hb => by simp at hb, us, hr⟩
      · cases e
  | .str, cells, vs, g, d, rest, fr, e, hr => by
    cases cells with
    | nil => simp [collS] at e
    | cons a cells =>
      cases a <;> simp only [collS, reduceCtorEq] at e
      cases e
      simp only [Rels] at hr
      obtain ⟨v, us, rfl, _, hr⟩ := hr
      exact ⟨fun b hb => by simp at hb, us, hr⟩
  | .slice sh, cells, vs, g, d, rest, fr, e, hr => by
    cases cells with
    | nil => simp [collS] at e
    | cons a cells =>
      simp only [Rels] at hr
      obtain ⟨v, us, rfl, hv, hr⟩ := hr
      cases a <;> simp only [collS, reduceCtorEq] at e
      · cases e
        exact ⟨fun b hb => by simp at hb, us, hr⟩
      · rename_i b off len cap
        split at e
        · rename_i cs hb
          split at e
          · rename_i l0 hl
            split at e
            · rename_i g ds fr1 hc
              cases e
              simp only [Rel] at hv
              obtain ⟨B, o, r, hρ, hlc, rfl⟩ := hv
              have hρ' : ρ b ≠ none := by rw [hρ]; simp
              obtain ⟨vs0, h1⟩ := hC b cs hb hρ'
              obtain ⟨hle, rfl⟩ := readL_some hl
              obtain ⟨k1, _⟩ := els_ids (fun cells vs g d rest fr => coll_ids hC sh cells vs g d rest fr) len _ _ _ ds [] fr1 hc ((h1.drop off).take (len * sh.size))
              refine ⟨fun b' hb' => ?_, us, hr⟩
              rcases List.mem_cons.1 hb' with rfl | hb'
              · exact hρ'
              · exact k1 b' hb'
            · cases e
          · cases e
        · cases e
      · split at e
        · cases e
          exact ⟨fun b hb => by simp at hb, us, hr⟩
        · cases e
      · rename_i nn sh' b off len cap
        split at e
        · split at e
          · cases e
            simp only [Rel] at hv
            obtain ⟨B, o, r, hρ, _⟩ := hv
            refine ⟨fun b' hb' => ?_, us, hr⟩
            simp at hb'
            subst hb'
            rw [hρ]; simp
          · cases e
        · cases e
  | .struct fs, cells, vs, g, d, rest, fr, e, hr => by
    simp only [collS] at e
    split at e
    · rename_i g ds r fr1 hc
      cases e
      exact colls_ids hC fs cells vs g ds rest fr hc hr
    · cases e
theorem colls_ids (hC : ∀ b cs, s[b]? = some (.cells cs) → ρ b ≠ none → ∃ vs, Rels ρ cs vs) : ∀ (fs : List Sh) (cells : List AV) (vs : List Value) (g : Bool) (ds : List D) (rest : List AV) (fr : List Nat), collFs s fs cells = some (g, ds, rest, fr) → Rels ρ cells vs →
    (∀ b ∈ fr, ρ b ≠ none) ∧ ∃ us, Rels ρ rest us
  | [], cells, vs, g, ds, rest, fr, e, hr => by simp only [collFs] at e; cases e; exact ⟨fun b hb => by simp at hb, vs, hr⟩
  | f :: fs, cells, vs, g, ds, rest, fr, e, hr => by
    simp only [collFs] at e
    split at e
    · cases e
    · rename_i g1 d0 r fr1 h1
      split at e
      · cases e
      · rename_i g' ds' r' fr2 h2
        cases e
        obtain ⟨k1, us, k2⟩ := coll_ids hC f cells vs g1 d0 r fr1 h1 hr
        obtain ⟨m1, m2⟩ := colls_ids hC fs r us g' ds' rest fr2 h2 k2
        refine ⟨fun b hb => ?_, m2⟩
        rcases List.mem_append.1 hb with hb | hb
        · exact k1 b hb
        · exact m1 b hb
end
theorem HR.cellsOf {h : Hp} {w : World} (hr : HR ρ h w) (ha : Agree s h) : ∀ b cs, s[b]? = some (.cells cs) → ρ b ≠ none → ∃ vs, Rels ρ cs vs := fun b cs hb hρ => by
  obtain ⟨⟨B, o, r⟩, hρ⟩ := Option.ne_none_iff_exists'.1 hρ
  have hbl : b < s.length := (List.getElem?_eq_some_iff.1 hb).1
  obtain ⟨vs, h1, _⟩ := (hr.cell b B o r _ false cs hρ (by rw [ha b hbl]; exact hb) rfl).vals
  exact ⟨vs, h1⟩

/- ### freezing one by one -/
theorem freeze_length : ∀ (fr : List Nat) (s : St), (freeze s fr).length = s.length
  | [], s => rfl
  | b :: bs, s => by
    simp only [freeze]
    split
    · rw [freeze_length bs, List.length_set]
    · exact freeze_length bs s
theorem set_same {α : Type} : ∀ (l : List α) (i : Nat) (x : α), l[i]? = some x → l.set i x = l
  | [], i, x, h => by simp at h
  | y :: l, 0, x, h => by simp at h; subst h; rfl
  | y :: l, i + 1, x, h => by simp at h; simp [set_same l i x h]
theorem freeze_post : ∀ (fr : List Nat) {ρ : Rho} {h : Hp} {w : World} {s : St}, HR ρ h w → Agree s h → (∀ b ∈ fr, ρ b ≠ none) →
    ∃ ρ', Post ρ h w s ρ' (upd (freeze s fr) h) w (freeze s fr) ∧ (∀ i, ρ' i = ρ i) ∧ FrzAll ρ' s fr
  | [], ρ, h, w, s, hr, ha, hid => ⟨ρ, Post.refl hr ha, fun _ => rfl, fun b hb => by simp at hb⟩
  | b :: bs, ρ, h, w, s, hr, ha, hid => by
    simp only [freeze]
    split
    · rename_i x hb
      obtain ⟨⟨B, o, r⟩, hρ⟩ := Option.ne_none_iff_exists'.1 (hid b (by simp))
      -- the first one
      have step : ∃ ρ1, Post ρ h w s ρ1 (upd (s.set b (freezeE x)) h) w (s.set b (freezeE x)) ∧ (∀ i, ρ1 i = ρ i) ∧ ∀ ro cs, x.view = some (ro, cs) → ∃ vs, Rels ρ1 cs vs ∧ ∀ (i : Nat) (v : Value), vs[i]? = some v → ρ1.fz B (o + i) = some v := by
        cases hv : x.view with
        | none =>
          have hd : x = .dead := by cases x <;> simp [Ent.view] at hv; rfl
          subst hd
          rw [show freezeE Ent.dead = Ent.dead from rfl, set_same s b _ hb]
          exact ⟨ρ, Post.refl hr ha, fun _ => rfl, fun ro cs e => by cases e⟩
        | some q =>
          obtain ⟨ro, cs⟩ := q
          obtain ⟨ρ1, hp, vs, k1, k2⟩ := freeze1_post hr ha hb hρ hv
          refine ⟨ρ1, hp, fun i => ?_, fun ro' cs' e => by cases e; exact ⟨vs, k1, k2⟩⟩
          by_cases e : ρ1 i = ρ i
          · exact e
          · have := hp.new i e; simp at this; omega
      obtain ⟨ρ1, hp, hat, hfz⟩ := step
      obtain ⟨ρ2, hp2, hat2, hF2⟩ := freeze_post bs hp.hr hp.agree (fun b' hb' => by rw [hat]; exact hid b' (List.mem_cons_of_mem _ hb'))
      have hp3 := hp.trans hp2
      rw [upd_upd (by rw [freeze_length]; exact Nat.le_refl _)] at hp3
      refine ⟨ρ2, hp3, fun i => by rw [hat2, hat], fun b' hb' y ro cs B' o' r' h1 h2 h3 => ?_⟩
      by_cases hbb : b' = b
      · subst hbb
        rw [hb] at h1; cases h1
        rw [hat2, hat, hρ] at h3; cases h3
        obtain ⟨vs, k1, k2⟩ := hfz ro cs h2
        exact ⟨vs, Rels.mono hp2.ext _ _ k1, fun i v e => hp2.ext.2 _ _ _ (k2 i v e)⟩
      · rcases List.mem_cons.1 hb' with e | hb'
        · exact absurd e hbb
        · exact hF2 b' hb' y ro cs B' o' r' (by rw [List.getElem?_set_ne (fun e => hbb e.symm)]; exact h1) h2 h3
    · obtain ⟨ρ', hp, hat, hF⟩ := freeze_post bs hr ha (fun b' hb' => hid b' (List.mem_cons_of_mem _ hb'))
      rename_i hb
      refine ⟨ρ', hp, hat, fun b' hb' y ro cs B' o' r' h1 h2 h3 => ?_⟩
      rcases List.mem_cons.1 hb' with rfl | hb'
      · rw [hb] at h1; cases h1
      · exact hF b' hb' y ro cs B' o' r' h1 h2 h3

/- ### modes -/
theorem ofD_rel {sh : Sh} {d : D} {v : Value} (h : RelSh ρ.fz sh d v.cells.toList) (hv : isStruct sh = true → ∃ l, v = .agg l) (hv' : isStruct sh = false → v.cells = #[v]) : Rel ρ (ofD sh d) v := by
  have h1 := (rels_expand _ _ _).1 h
  unfold ofD
  cases hs : isStruct sh with
  | true =>
    obtain ⟨l, rfl⟩ := hv hs
    simp only [Rel]
    exact ⟨l.toList, by simp, by simpa [Value.cells] using h1⟩
  | false =>
    rw [hv' hs] at h1
    simp only [Rels] at h1
    have hlen := h1.length
    cases he : expand sh d with
    | nil => rw [he] at hlen; simp at hlen
    | cons a l =>
      rw [he] at h1 hlen
      simp only [Rels] at h1
      obtain ⟨u, us, e, h2, h3⟩ := h1
      cases e
      cases l with
      | nil => exact h2
      | cons => simp at hlen
theorem mode_sound {m : Mode} {a a' : AV} {v : Value} {fr : List Nat} (e : modeS s m a = some (true, a', fr)) (hr : Rel ρ a v) (hF : FrzAll ρ s fr) : Rel ρ a' v := by
  cases m with
  | keep => simp only [modeS] at e; cases e; exact hr
  | data sh =>
    simp only [modeS] at e
    split at e
    · rename_i hag
      have hag : isAggV a = isStruct sh := by simpa using hag
      split at e
      · rename_i g d fr1 hc
        simp only [Option.some.injEq, Prod.mk.injEq] at e
        obtain ⟨rfl, rfl, rfl⟩ := e
        obtain ⟨h1, h2⟩ := coll_sound (ρ := ρ) sh _ _ d [] fr1 hc hr.cells hF
        have hl := h1.length
        have hnil := h2.length
        have htake : v.cells.toList.take sh.size = v.cells.toList := by
          apply List.take_of_length_le
          simp only [List.length_drop, List.length_nil] at hnil
          omega
        rw [htake] at h1
        refine ofD_rel h1 (fun hs => ?_) (fun hs => ?_)
        · rw [hs] at hag
          cases a with
          | agg cs => simp only [Rel] at hr; obtain ⟨l, rfl, _⟩ := hr; exact ⟨_, rfl⟩
          | _ => simp [isAggV] at hag
        · rw [hs] at hag
          have hsc : scalarV a = true ∨ (∃ vs, a = .tup vs) ∨ a = .any ∨ ∃ cs, a = .agg cs := by cases a <;> simp [scalarV]
          rcases hsc with hsc | ⟨vs, rfl⟩ | rfl | ⟨cs, rfl⟩
          · exact oneCell_cells (hr.oneCell hsc)
          · simp only [Rel] at hr; obtain ⟨l, rfl, _⟩ := hr; rfl
          · simp [Rel] at hr
          · simp [isAggV] at hag
      · cases e
    · cases e
theorem mode_ids (hC : ∀ b cs, s[b]? = some (.cells cs) → ρ b ≠ none → ∃ vs, Rels ρ cs vs) {m : Mode} {a a' : AV} {v : Value} {g : Bool} {fr : List Nat} (e : modeS s m a = some (g, a', fr)) (hr : Rel ρ a v) : ∀ b ∈ fr, ρ b ≠ none := by
  cases m with
  | keep => simp only [modeS] at e; cases e; exact fun b hb => by simp at hb
  | data sh =>
    simp only [modeS] at e
    split at e
    · split at e
      · rename_i g1 d fr1 hc
        cases e
        exact (coll_ids hC sh _ _ _ d [] fr hc hr.cells).1
      · cases e
    · cases e
theorem modes_sound : ∀ {ms : List Mode} {as as' : List AV} {vs : List Value} {fr : List Nat}, modesS s ms as = some (true, as', fr) → Rels ρ as vs → FrzAll ρ s fr → Rels ρ as' vs
  | [], as, as', vs, fr, e, hr, hF => by simp only [modesS] at e; cases e; exact hr
  | m :: ms, [], as', vs, fr, e, hr, hF => by simp only [modesS] at e; cases e; exact hr
  | m :: ms, a :: as, as', vs, fr, e, hr, hF => by
    simp only [modesS] at e
    split at e
    · cases e
    · rename_i g a1 fr1 h1
      split at e
      · cases e
      · rename_i g' as1 fr2 h2
        simp only [Option.some.injEq, Prod.mk.injEq, Bool.and_eq_true] at e
        obtain ⟨⟨rfl, rfl⟩, rfl, rfl⟩ := e
        simp only [Rels] at hr
        obtain ⟨v, us, rfl, hv, hr⟩ := hr
        exact Rels.cons (mode_sound h1 hv hF.left) (modes_sound h2 hr hF.right)
theorem modes_ids (hC : ∀ b cs, s[b]? = some (.cells cs) → ρ b ≠ none → ∃ vs, Rels ρ cs vs) : ∀ {ms : List Mode} {as as' : List AV} {vs : List Value} {g : Bool} {fr : List Nat}, modesS s ms as = some (g, as', fr) → Rels ρ as vs → ∀ b ∈ fr, ρ b ≠ none
  | [], as, as', vs, g, fr, e, hr => by simp only [modesS] at e; cases e; exact fun b hb => by simp at hb
  | m :: ms, [], as', vs, g, fr, e, hr => by simp only [modesS] at e; cases e; exact fun b hb => by simp at hb
  | m :: ms, a :: as, as', vs, g, fr, e, hr => by
    simp only [modesS] at e
    split at e
    · cases e
    · rename_i g1 a1 fr1 h1
      split at e
      · cases e
      · rename_i g' as1 fr2 h2
        cases e
        simp only [Rels] at hr
        obtain ⟨v, us, rfl, hv, hr⟩ := hr
        intro b hb
        rcases List.mem_append.1 hb with hb | hb
        · exact mode_ids hC h1 hv b hb
        · exact modes_ids hC h2 hr b hb
end
end Go.Sy
