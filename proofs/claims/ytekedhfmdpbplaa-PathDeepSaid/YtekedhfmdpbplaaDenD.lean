/- The pure operations, one and all. -/
import Derived.Test.YtekedhfmdpbplaaDenC
set_option linter.unusedSimpArgs false
set_option linter.unusedVariables false
namespace Go.Den
open Go

section
variable {P : Program} {ρ : Rho} (w : World)

/- ### '==' -/
theorem run_equalA {t : TypeId} {x y : AV} {r : Bool} {u v : Value} (h : equalA P t x y = some r) (hu : Rel ρ x u) (hv : Rel ρ y v) :
    (Op.equal t u v).run P w = .ok r w ∧ ∀ (op : BinOp) (a b : Operand), (eqGuard op t a b u v).run P w = .ok () w := by
  unfold equalA at h
  split at h
  · cases h
  · rename_i hg
    refine ⟨run_eqA 200 10000 t x y r u v w (by omega) h hu hv, fun op a b => ?_⟩
    cases x with
    | agg cs =>
      have hg' : P.eqGuardType P.depth t = false := by simpa [isAggV] using hg
      simp only [Rel] at hu
      obtain ⟨l, rfl, _⟩ := hu
      by_cases hv' : ∃ m, v = .agg m
      · obtain ⟨m, rfl⟩ := hv'; exact run_eqGuard_agg w op t a b _ _ hg'
      · have : eqGuard op t a b (.agg l.toArray) v = pure () := by
          cases op <;> cases v <;> first | rfl | exact absurd ⟨_, rfl⟩ hv'
        rw [this]; rfl
    | lit x' => simp only [eqA] at h; revert h; split <;> (intro h; first | cases h | (split at h <;> cases h))
    | tup x' => simp only [eqA] at h; revert h; split <;> (intro h; first | cases h | (split at h <;> cases h))
    | fact k' fs' => simp only [eqA] at h; revert h; split <;> (intro h; first | cases h | (split at h <;> cases h))
    | glob x' => simp only [eqA] at h; revert h; split <;> (intro h; first | cases h | (split at h <;> cases h))
    | bool b' => simp only [Rel] at hu; subst hu; rw [eqGuard_at_bool]; rfl
    | int k n => simp only [Rel] at hu; subst hu; rw [eqGuard_at_int]; rfl
    | str s => simp only [Rel] at hu; subst hu; rw [eqGuard_at_string]; rfl
    | nilFn => simp only [Rel] at hu; subst hu; cases op <;> rfl
    | fn f x y =>
      simp only [Rel] at hu
      obtain ⟨a1, a2, rfl, _⟩ := hu
      rw [eqGuard_at_func]; rfl
    | ptr p =>
      rcases p with _ | ⟨_, _⟩ <;> simp only [Rel] at hu
      · subst hu; rw [eqGuard_at_pointer]; rfl
      · obtain ⟨B, o, q, _, rfl⟩ := hu; rw [eqGuard_at_pointer]; rfl
    | sl p n c =>
      rcases p with _ | ⟨_, _⟩ <;> cases c <;> simp only [Rel] at hu
      · obtain ⟨_, _, rfl⟩ := hu; rw [eqGuard_at_slice]; rfl
      · obtain ⟨_, _, rfl⟩ := hu; rw [eqGuard_at_slice]; rfl
      · obtain ⟨B, o, q, _, _, rfl⟩ := hu; rw [eqGuard_at_slice]; rfl
      · obtain ⟨B, o, q, cap, _, _, _, _, rfl | ⟨_, x, rfl⟩⟩ := hu <;> rw [eqGuard_at_slice] <;> rfl

/-- Two real values that '==' of the abstract machine tells of, beside numbers and texts. -/
def pairV : Value → Value → Bool
  | .bool _, .bool _ => true
  | .pointer _, .pointer _ => true
  | .slice _ _ _, .slice _ _ _ => true
  | .nilFunc, .nilFunc => true
  | .nilFunc, .func _ _ _ => true
  | .func _ _ _, .nilFunc => true
  | .agg _, .agg _ => true
  | _, _ => false
theorem Rel.ptr_form {a : Option (Nat × Nat)} {u : Value} (h : Rel ρ (.ptr a) u) : ∃ p, u = .pointer p := by
  rcases a with _ | ⟨_, _⟩ <;> simp only [Rel] at h
  · exact ⟨_, h⟩
  · obtain ⟨B, o, q, _, e⟩ := h; exact ⟨_, e⟩
theorem Rel.sl_form {a : Option (Nat × Nat)} {n : Nat} {c : Cap} {u : Value} (h : Rel ρ (.sl a n c) u) : ∃ p c', u = .slice p n c' := by
  rcases a with _ | ⟨_, _⟩ <;> cases c <;> simp only [Rel] at h
  · obtain ⟨rfl, _, e⟩ := h; exact ⟨_, _, e⟩
  · obtain ⟨rfl, _, e⟩ := h; exact ⟨_, _, e⟩
  · obtain ⟨B, o, q, _, _, e⟩ := h; exact ⟨_, _, e⟩
  · obtain ⟨B, o, q, cap, _, h1, h2, _, e | ⟨h3, x, e⟩⟩ := h
    · exact ⟨_, _, e⟩
    · obtain rfl : n = 0 := by omega
      exact ⟨_, _, e⟩
theorem eqA_shape {d : Nat} {t : TypeId} {x y : AV} {r : Bool} {u v : Value} (h : eqA P d t x y = some r) (hu : Rel ρ x u) (hv : Rel ρ y v) :
    (∃ k n k' m, x = .int k n ∧ y = .int k' m) ∨ (∃ a b, x = .str a ∧ y = .str b) ∨ pairV u v = true := by
  cases d with
  | zero => simp [eqA] at h
  | succ d =>
    simp only [eqA] at h
    split at h
    · split at h
      · simp only [Rel] at hu hv; subst hu; subst hv; exact .inr (.inr rfl)
      · cases h
    · split at h
      · exact .inl ⟨_, _, _, _, rfl, rfl⟩
      · cases h
    · split at h
      · exact .inr (.inl ⟨_, _, rfl, rfl⟩)
      · cases h
    · split at h
      · obtain ⟨p, rfl⟩ := hu.ptr_form; obtain ⟨q, rfl⟩ := hv.ptr_form; exact .inr (.inr rfl)
      · obtain ⟨p, rfl⟩ := hu.ptr_form; obtain ⟨q, rfl⟩ := hv.ptr_form; exact .inr (.inr rfl)
      · cases h
    · split at h
      · obtain ⟨p, c, rfl⟩ := hu.sl_form; obtain ⟨q, c', rfl⟩ := hv.sl_form; exact .inr (.inr rfl)
      · obtain ⟨p, c, rfl⟩ := hu.sl_form; obtain ⟨q, c', rfl⟩ := hv.sl_form; exact .inr (.inr rfl)
      · cases h
    · split at h
      · simp only [Rel] at hu hv; subst hu; subst hv; exact .inr (.inr rfl)
      · simp only [Rel] at hu hv; subst hu; obtain ⟨_, _, rfl, _⟩ := hv; exact .inr (.inr rfl)
      · simp only [Rel] at hu hv; subst hv; obtain ⟨_, _, rfl, _⟩ := hu; exact .inr (.inr rfl)
      · cases h
    · split at h
      · simp only [Rel] at hu hv; obtain ⟨_, rfl, _⟩ := hu; obtain ⟨_, rfl, _⟩ := hv; exact .inr (.inr rfl)
      · cases h
    · split at h
      · simp only [Rel] at hu hv; obtain ⟨_, rfl, _⟩ := hu; obtain ⟨_, rfl, _⟩ := hv; exact .inr (.inr rfl)
      · cases h
    · cases h
theorem binOp_eql_eq {t : TypeId} {u v : Value} (hp : pairV u v = true) : binOp .eql t u v = (do pure (.bool (← Op.equal t u v))) := by
  cases u <;> cases v <;> first | rfl | (simp [pairV] at hp)
theorem binOp_neq_eq {t : TypeId} {u v : Value} (hp : pairV u v = true) : binOp .neq t u v = (do pure (.bool (!(← Op.equal t u v)))) := by
  cases u <;> cases v <;> first | rfl | (simp [pairV] at hp)

theorem hitA_some {op : BinOp} {c : Int} {r : FV} : ∀ {fs : List (List (BinOp × Int) × FV)}, hitA op c fs = some r → ([(op, c)], r) ∈ fs
  | [], h => by simp [hitA] at h
  | ([(o, d)], r') :: fs, h => by
    simp only [hitA] at h
    split at h
    · rename_i e
      simp only [Bool.and_eq_true, decide_eq_true_eq] at e
      cases h
      rw [e.1, e.2]
      exact List.mem_cons_self
    · exact List.mem_cons_of_mem _ (hitA_some h)
  | ([], r') :: fs, h => by
    simp only [hitA] at h
    exact List.mem_cons_of_mem _ (hitA_some h)
  | (_ :: _ :: _, r') :: fs, h => by
    simp only [hitA] at h
    exact List.mem_cons_of_mem _ (hitA_some h)
theorem tailsA_mem {op : BinOp} {c : Int} {x : List (BinOp × Int) × FV} : ∀ {fs : List (List (BinOp × Int) × FV)}, x ∈ tailsA op c fs → x.1 ≠ [] ∧ ((op, c) :: x.1, x.2) ∈ fs
  | [], h => by simp [tailsA] at h
  | ((o, d) :: y :: ys, r') :: fs, h => by
    simp only [tailsA] at h
    split at h
    · rename_i e
      simp only [Bool.and_eq_true, decide_eq_true_eq] at e
      rcases List.mem_cons.1 h with rfl | h'
      · rw [e.1, e.2]
        exact ⟨by simp, List.mem_cons_self⟩
      · exact ⟨(tailsA_mem h').1, List.mem_cons_of_mem _ (tailsA_mem h').2⟩
    · exact ⟨(tailsA_mem h).1, List.mem_cons_of_mem _ (tailsA_mem h).2⟩
  | ([], r') :: fs, h => by
    simp only [tailsA] at h
    exact ⟨(tailsA_mem h).1, List.mem_cons_of_mem _ (tailsA_mem h).2⟩
  | ([_], r') :: fs, h => by
    simp only [tailsA] at h
    exact ⟨(tailsA_mem h).1, List.mem_cons_of_mem _ (tailsA_mem h).2⟩
theorem chainA_one {k : IntKind} {n c : Int} {op : BinOp} {r : AV} (h : chainA k n [(op, c)] = some r) : intOp op k n c = some r := by
  simp only [chainA] at h
  split at h
  · rename_i k' m e
    split at h
    · rename_i hk
      have := of_decide_eq_true hk
      subst this
      cases h
      exact e
    · cases h
  · rename_i b e
    cases h
    exact e
  · cases h
theorem chainA_more {k : IntKind} {n c : Int} {op : BinOp} {r : AV} {t : List (BinOp × Int)} (ht : t ≠ []) (h : chainA k n ((op, c) :: t) = some r) : ∃ m, intOp op k n c = some (.int k m) ∧ chainA k m t = some r := by
  simp only [chainA] at h
  split at h
  · rename_i k' m e
    split at h
    · rename_i hk
      have := of_decide_eq_true hk
      subst this
      exact ⟨m, e, h⟩
    · cases h
  · split at h
    · exact absurd rfl ht
    · cases h
  · cases h
theorem factA_some {ρ : Rho} {op : BinOp} {k : IntKind} {n c : Int} {fs : List (List (BinOp × Int) × FV)} {a : AV} (h : factA op k c fs = some a) (hfs : ∀ x ∈ fs, chainA k n x.1 = some (x.2.av k)) :
    ∃ b, intOp op k n c = some b ∧ ∀ r, Rel ρ b r → Rel ρ a r := by
  unfold factA at h
  split at h
  · rename_i r hr
    cases h
    exact ⟨_, chainA_one (hfs _ (hitA_some hr)), fun _ h => h⟩
  · split at h
    · cases h
    · rename_i x xs hx
      cases h
      have h0 := tailsA_mem (op := op) (c := c) (x := x) (fs := fs) (by rw [hx]; exact List.mem_cons_self)
      obtain ⟨m, hm, _⟩ := chainA_more h0.1 (hfs _ h0.2)
      refine ⟨.int k m, hm, fun r hr => ?_⟩
      simp only [Rel] at hr ⊢
      refine ⟨m, hr, fun y hy => ?_⟩
      have h1 := tailsA_mem (op := op) (c := c) (x := y) (fs := fs) (by rw [hx]; exact hy)
      obtain ⟨m', hm', h2⟩ := chainA_more h1.1 (hfs _ h1.2)
      rw [hm] at hm'
      cases hm'
      exact h2
theorem run_binA {op : BinOp} {t : TypeId} {x y a : AV} {u v : Value} (h : binA P op t x y = some a) (hu : Rel ρ x u) (hv : Rel ρ y v) (p q : Operand) :
    ∃ r, (do eqGuard op t p q u v; binOp op t u v : Sem Value).run P w = .ok r w ∧ Rel ρ a r := by
  unfold binA at h
  split at h
  · rename_i k fs k' m
    simp only [Rel] at hu hv
    subst hv
    obtain ⟨n, rfl, hfs⟩ := hu
    split at h
    · rename_i hk
      have hk' : k = k' := of_decide_eq_true hk
      subst hk'
      obtain ⟨b, hb, hab⟩ := factA_some (ρ := ρ) h hfs
      rw [eqGuard_at_int]
      simp only [Sem.run_bind, Sem.run_pure, Result.andThen_ok]
      obtain ⟨r, h1, h2⟩ := run_intOp hb t w ρ
      exact ⟨r, h1, hab r h2⟩
    · cases h
  · rename_i k n k' m
    simp only [Rel] at hu hv; subst hu; subst hv
    rw [eqGuard_at_int]
    simp only [Sem.run_bind, Sem.run_pure, Result.andThen_ok]
    split at h
    · exact run_shiftOp (.inl rfl) h t w ρ
    · exact run_shiftOp (.inr rfl) h t w ρ
    · split at h
      · rename_i hk
        have hk' : k = k' := of_decide_eq_true hk
        subst hk'
        exact run_intOp h t w ρ
      · cases h
  · rename_i s1 s2
    have e1 := hu.str_inv
    have e2 := hv.str_inv
    subst e1; subst e2
    rw [eqGuard_at_string]
    simp only [Sem.run_bind, Sem.run_pure, Result.andThen_ok]
    exact run_strOp h t w ρ
  · rename_i hi hs
    split at h
    · split at h
      · rename_i r hr
        cases h
        obtain ⟨h1, h2⟩ := run_equalA w hr hu hv
        have he : eqA P 200 t x y = some r := by unfold equalA at hr; split at hr <;> first | cases hr | exact hr
        rcases eqA_shape he hu hv with ⟨k, n, k', m, rfl, rfl⟩ | ⟨s1, s2, rfl, rfl⟩ | hp
        · exact absurd rfl (hi _ _ _ _ rfl)
        · exact absurd rfl (hs _ _ rfl)
        · refine ⟨.bool r, ?_, by simp [Rel]⟩
          rw [binOp_eql_eq hp]
          simp [h2, h1]
      · cases h
    · split at h
      · rename_i r hr
        cases h
        obtain ⟨h1, h2⟩ := run_equalA w hr hu hv
        have he : eqA P 200 t x y = some r := by unfold equalA at hr; split at hr <;> first | cases hr | exact hr
        rcases eqA_shape he hu hv with ⟨k, n, k', m, rfl, rfl⟩ | ⟨s1, s2, rfl, rfl⟩ | hp
        · exact absurd rfl (hi _ _ _ _ rfl)
        · exact absurd rfl (hs _ _ rfl)
        · refine ⟨.bool (!r), ?_, by simp [Rel]⟩
          rw [binOp_neq_eq hp]
          simp [h2, h1]
      · cases h
    · cases h

theorem run_unA {op : UnOp} {x a : AV} {u : Value} (h : unA op x = some a) (hu : Rel ρ x u) : ∃ r, (Op.unary op u).run P w = .ok r w ∧ Rel ρ a r := by
  unfold unA at h
  split at h
  · cases h; simp only [Rel] at hu; subst hu; exact ⟨_, by simp [Op.unary, Op.intArith]; rfl, by simp [Rel]⟩
  · rename_i k n
    simp only [Rel] at hu; subst hu
    simp only [intOp] at h
    cases h
    exact ⟨_, by simp [Op.unary, Op.intBits]; rfl, by simp [Rel]⟩
  · cases h; simp only [Rel] at hu; subst hu; exact ⟨_, by simp [Op.unary]; rfl, by simp [Rel]⟩
  · cases h

/- ### literals -/
theorem writeL_length (cs : List AV) (off : Nat) (vs : List AV) (h : off + vs.length ≤ cs.length) : (writeL cs off vs).length = cs.length := by
  simp [writeL]; omega
def writeV (cs : List Value) (off : Nat) (vs : List Value) : List Value := cs.take off ++ (vs ++ cs.drop (off + vs.length))
theorem Rels.write {cs vs : List AV} {cs' vs' : List Value} {off : Nat} (h : Rels ρ cs cs') (k : Rels ρ vs vs') : Rels ρ (writeL cs off vs) (writeV cs' off vs') := by
  unfold writeL writeV
  rw [k.length]
  exact (h.take _).append (k.append (h.drop _))
theorem foldl_write (off : Nat) (l : List Value) (cs : Array Value) (h : off + l.length ≤ cs.size) :
    (l.zipIdx 0).foldl (fun cs (x : Value × Nat) => cs.setIfInBounds (off + x.2) x.1) cs = (writeV cs.toList off l).toArray := by
  obtain ⟨h1, h2⟩ := Great.foldl_set off l 0 cs
  apply Array.ext'
  apply List.ext_getElem?
  intro k
  have h3 := h2 k
  simp only [Nat.add_zero] at h3
  rw [Array.getElem?_toList, h3]
  simp only [writeV]
  by_cases hk : off ≤ k ∧ k < off + l.length ∧ k < cs.size
  · rw [if_pos hk]
    rw [List.getElem?_append_right (by simp; omega), List.getElem?_append_left (by simp; omega)]
    simp [Nat.min_eq_left (show off ≤ cs.size by omega)]
  · rw [if_neg hk]
    by_cases h4 : k < off
    · rw [List.getElem?_append_left (by simp; omega)]
      simp [h4]
    · by_cases h5 : k < cs.size
      · rw [List.getElem?_append_right (by simp; omega), List.getElem?_append_right (by simp; omega)]
        simp [Nat.min_eq_left (show off ≤ cs.size by omega)]
        congr 1; omega
      · rw [List.getElem?_eq_none (by simp; omega), Array.getElem?_eq_none (by omega)]
def RelParts (ρ : Rho) : List (Nat × AV) → List (Nat × Value) → Prop
  | [], l => l = []
  | (i, a) :: as, l => ∃ v vs, l = (i, v) :: vs ∧ Rel ρ a v ∧ RelParts ρ as vs
theorem fill_fillA {place placeV : Nat → Option (Nat × Nat)} (hp : ∀ i x, place i = some x → placeV i = some x) : ∀ (ps : List (Nat × AV)) (qs : List (Nat × Value)) (cs : List AV) (cs' : List Value) (r : List AV),
    fillA place cs ps = some r → RelParts ρ ps qs → Rels ρ cs cs' → ∃ r', Instr.fill placeV cs'.toArray qs = some r'.toArray ∧ Rels ρ r r'
  | [], qs, cs, cs', r, h, hq, hc => by
    simp only [RelParts] at hq; subst hq
    simp only [fillA] at h; cases h
    exact ⟨cs', rfl, hc⟩
  | (i, a) :: ps, qs, cs, cs', r, h, hq, hc => by
    simp only [RelParts] at hq
    obtain ⟨v, vs, rfl, hv, hq'⟩ := hq
    simp only [fillA] at h
    split at h
    · cases h
    · rename_i off size hpl
      split at h
      · rename_i hb
        simp only [Bool.and_eq_true] at hb
        have e1 := Nat.eq_of_beq_eq_true hb.1
        have e2 := Nat.le_of_ble_eq_true hb.2
        have hl := hv.cells.length
        have hcl := hc.length
        simp only [Array.length_toList] at hl
        obtain ⟨r', hr', hrel⟩ := fill_fillA hp ps vs (writeL cs off a.cells) (writeV cs' off v.cells.toList) r h hq' (hc.write hv.cells)
        refine ⟨r', ?_, hrel⟩
        rw [← hr']
        conv => lhs; unfold Instr.fill
        simp only [hp _ _ hpl]
        rw [if_neg (by simp; omega)]
        congr 1
        rw [← Array.foldl_toList, Array.toList_zipIdx]
        exact foldl_write off v.cells.toList cs'.toArray (by simp; omega)
      · cases h

theorem run_placesA : ∀ (fs : List Field) (l : List (Nat × Nat)) (w : World), placesA P fs = some l → (fs.mapM fun f => (do pure (f.offset, ← sizeOf f.type) : Sem (Nat × Nat))).run P w = .ok l w
  | [], l, w, h => by simp only [placesA] at h; cases h; simp
  | f :: fs, l, w, h => by
    simp only [placesA] at h
    split at h
    · cases h
    · rename_i n hn
      split at h
      · cases h
      · rename_i l' hl'
        cases h
        have ih := run_placesA fs l' w hl'
        rw [List.mapM_cons]
        simp only [Sem.run_bind, run_sizeA hn, Result.andThen_ok, Sem.run_pure, ih]
theorem run_buildA {t : TypeId} {ps : List (Nat × AV)} {qs : List (Nat × Value)} {a : AV} (h : buildA P t ps = some a) (hq : RelParts ρ ps qs) :
    ∃ v, (Instr.build t qs.toArray).run P w = .ok v w ∧ Rel ρ a v := by
  unfold buildA at h
  split at h
  · cases h
  · rename_i z hz
    obtain ⟨zv, hzr, hzrel⟩ := run_zeroA hz ρ
    split at h
    · rename_i fields hu
      split at h
      · cases h
      · rename_i pl hpl
        split at h
        · rename_i cs hf
          cases h
          obtain ⟨r', hr', hrel⟩ := fill_fillA (placeV := fun i => pl.toArray[i]?) (by intro i x hx; simpa using hx) ps qs z.cells zv.cells.toList cs hf hq hzrel.cells
          refine ⟨.agg r'.toArray, ?_, by simp only [Rel]; exact ⟨r', rfl, hrel⟩⟩
          have hm : (fields.mapM fun f => (do pure (f.offset, ← sizeOf f.type) : Sem (Nat × Nat))).run P w = .ok pl.toArray w := by
            rw [Array.mapM_eq_mapM_toList, Sem.run_map, run_placesA fields.toList pl w hpl]
            rfl
          simp only [Array.toArray_toList] at hr'
          simp only [Instr.build, Sem.run_bind, hzr, Result.andThen_ok, run_underlying hu, hm, hr', Sem.run_pure]
        · cases h
    · rename_i k e hu
      split at h
      · cases h
      · rename_i n hn
        split at h
        · rename_i cs hf
          cases h
          obtain ⟨r', hr', hrel⟩ := fill_fillA (placeV := fun i => some (i * n, n)) (by intro i x hx; exact hx) ps qs z.cells zv.cells.toList cs hf hq hzrel.cells
          refine ⟨.agg r'.toArray, ?_, by simp only [Rel]; exact ⟨r', rfl, hrel⟩⟩
          simp only [Array.toArray_toList] at hr'
          simp only [Instr.build, Sem.run_bind, hzr, Result.andThen_ok, run_underlying hu, run_sizeA hn, hr', Sem.run_pure]
        · cases h
    · cases h
/- ### slices, indexes, fields -/
theorem run_boundA' {x : AV} {y y' n : Nat} {u : Value} (h : boundA x y = some n) (hy : y ≤ y') (hu : Rel ρ x u) (code : BoundsCode) : (Instr.sliceBound u y' code).run P w = .ok n w ∧ n ≤ y := by
  unfold boundA at h
  split at h
  · rename_i k i
    simp only [Rel] at hu; subst hu
    split at h
    · rename_i hb
      cases h
      simp only [Bool.and_eq_true, decide_eq_true_eq] at hb
      refine ⟨?_, by omega⟩
      have hb' : 0 ≤ i ∧ i ≤ (y' : Int) := ⟨hb.1, by omega⟩
      simp [Instr.sliceBound, asIntOf, hb']
    · cases h
  · cases h
theorem run_boundA {x : AV} {y n : Nat} {u : Value} (h : boundA x y = some n) (hu : Rel ρ x u) (code : BoundsCode) : (Instr.sliceBound u y code).run P w = .ok n w ∧ n ≤ y := run_boundA' w h (Nat.le_refl _) hu code
def RelO (ρ : Rho) : Option AV → Option Value → Prop
  | none, v => v = none
  | some a, v => ∃ u, v = some u ∧ Rel ρ a u
theorem run_boundOr {x : Option AV} {y d n : Nat} {u : Option Value} (h : boundOr x y d = some n) (hu : RelO ρ x u) (code : BoundsCode) :
    (match u with | some v => Instr.sliceBound v y code | none => pure d : Sem Nat).run P w = .ok n w ∧ (n ≤ y ∨ n = d) := by
  unfold boundOr at h
  split at h
  · simp only [RelO] at hu; subst hu; cases h; exact ⟨rfl, .inr rfl⟩
  · simp only [RelO] at hu
    obtain ⟨v, rfl, hv⟩ := hu
    obtain ⟨h1, h2⟩ := run_boundA w h hv code
    exact ⟨h1, .inl h2⟩
theorem run_sliceBounds {isSl : Bool} {len cap l h m : Nat} {lo hi mx : Option AV} {lo' hi' mx' : Option Value}
    (hm : boundOr mx cap cap = some m) (hh : boundOr hi m len = some h) (hl : boundOr lo h 0 = some l) (hmh : mx.isSome = true → hi.isSome = true)
    (rl : RelO ρ lo lo') (rh : RelO ρ hi hi') (rm : RelO ρ mx mx') :
    (Instr.sliceBounds isSl len cap lo' hi' mx').run P w = .ok (l, h, m) w ∧ l ≤ h ∧ (len ≤ cap → h ≤ m) ∧ m ≤ cap := by
  cases mx with
  | none =>
    simp only [RelO] at rm; subst rm
    simp only [boundOr] at hm; cases hm
    cases hi with
    | none =>
      simp only [RelO] at rh; subst rh
      simp only [boundOr] at hh; cases hh
      cases lo with
      | none =>
        simp only [RelO] at rl; subst rl
        simp only [boundOr] at hl; cases hl
        exact ⟨by simp [Instr.sliceBounds], by omega, fun e => e, Nat.le_refl _⟩
      | some lv =>
        simp only [RelO] at rl; obtain ⟨lu, rfl, rl⟩ := rl
        obtain ⟨b1, b2⟩ := run_boundA (P := P) w (show boundA lv len = some l from hl) rl .sliceB
        exact ⟨by simp [Instr.sliceBounds, b1], b2, fun e => e, Nat.le_refl _⟩
    | some hv =>
      simp only [RelO] at rh; obtain ⟨hu, rfl, rh⟩ := rh
      obtain ⟨c1, c2⟩ := run_boundA (P := P) w (show boundA hv cap = some h from hh) rh (if isSl then .sliceAcap else .sliceAlen)
      cases lo with
      | none =>
        simp only [RelO] at rl; subst rl
        simp only [boundOr] at hl; cases hl
        exact ⟨by simp [Instr.sliceBounds, c1], by omega, fun _ => c2, Nat.le_refl _⟩
      | some lv =>
        simp only [RelO] at rl; obtain ⟨lu, rfl, rl⟩ := rl
        obtain ⟨b1, b2⟩ := run_boundA (P := P) w (show boundA lv h = some l from hl) rl .sliceB
        exact ⟨by simp [Instr.sliceBounds, c1, b1], b2, fun _ => c2, Nat.le_refl _⟩
  | some mv =>
    simp only [RelO] at rm; obtain ⟨mu, rfl, rm⟩ := rm
    obtain ⟨a1, a2⟩ := run_boundA (P := P) w (show boundA mv cap = some m from hm) rm (if isSl then .slice3Acap else .slice3Alen)
    cases hi with
    | none => simp at hmh
    | some hv =>
      simp only [RelO] at rh; obtain ⟨hu, rfl, rh⟩ := rh
      obtain ⟨c1, c2⟩ := run_boundA (P := P) w (show boundA hv m = some h from hh) rh .slice3B
      cases lo with
      | none =>
        simp only [RelO] at rl; subst rl
        simp only [boundOr] at hl; cases hl
        exact ⟨by simp [Instr.sliceBounds, a1, c1], by omega, fun _ => c2, a2⟩
      | some lv =>
        simp only [RelO] at rl; obtain ⟨lu, rfl, rl⟩ := rl
        obtain ⟨b1, b2⟩ := run_boundA (P := P) w (show boundA lv h = some l from hl) rl .slice3C
        exact ⟨by simp [Instr.sliceBounds, a1, c1, b1], b2, fun _ => c2, a2⟩
theorem run_sliceStr {s : List UInt8} {lo hi mx : Option AV} {lo' hi' mx' : Option Value} {a : AV} {t : TypeId} (ht : P.underlying t = some .string) (h : sliceStr s lo hi mx = some a)
    (rl : RelO ρ lo lo') (rh : RelO ρ hi hi') (rm : RelO ρ mx mx') :
    ∃ v, (Instr.slice t (.string ⟨s.toArray⟩) lo' hi' mx').run P w = .ok v w ∧ Rel ρ a v := by
  unfold sliceStr at h
  split at h
  · cases h
  · simp only [RelO] at rm; subst rm
    split at h
    · cases h
    · rename_i hn hh
      split at h
      · cases h
      · rename_i l hl
        cases h
        have e0 : (ByteArray.mk s.toArray).size = s.length := by simp [ByteArray.size]
        obtain ⟨h1, h2, h3, h4⟩ := run_sliceBounds (P := P) w (isSl := false) (len := s.length) (cap := s.length) (mx := none) (mx' := none) rfl hh hl (by simp) rl rh (by simp [RelO])
        refine ⟨.string ((ByteArray.mk s.toArray).extract l hn), by simp [Instr.slice, run_underlying ht, e0, h1], ?_⟩
        simp only [Rel, Value.string.injEq]
        apply ByteArray.ext
        simp [ByteArray.data_extract]
        rw [List.drop_take]
theorem RelO.isSome {x : Option AV} {v : Option Value} (h : RelO ρ x v) : v.isSome = x.isSome := by
  cases x <;> simp only [RelO] at h
  · subst h; rfl
  · obtain ⟨u, rfl, _⟩ := h; rfl
theorem run_sliceSl {x : Option (Nat × Nat)} {len sz : Nat} {cap : Cap} {lo hi mx : Option AV} {lo' hi' mx' : Option Value} {a : AV} {t e : TypeId} {u : Value}
    (ht : P.underlying t = some (.slice e)) (hs : sizeA P e = some sz) (h : sliceSl x len cap sz lo hi mx = some a) (hx : Rel ρ (.sl x len cap) u)
    (rl : RelO ρ lo lo') (rh : RelO ρ hi hi') (rm : RelO ρ mx mx') :
    ∃ v, (Instr.slice t u lo' hi' mx').run P w = .ok v w ∧ Rel ρ a v := by
  unfold sliceSl at h
  split at h
  · rename_i c
    split at h
    · cases h
    · rename_i hmx
      have hmx' : mx.isSome = true → hi.isSome = true := by
        intro e; rw [e] at hmx; cases hi <;> simp at hmx ⊢
      split at h
      · cases h
      · rename_i m hm
        split at h
        · cases h
        · rename_i hn hh
          split at h
          · cases h
          · rename_i l hl
            obtain ⟨h1, h2, h3, h4⟩ := run_sliceBounds (P := P) w (isSl := true) hm hh hl hmx' rl rh rm
            split at h
            · cases h
              simp only [Rel] at hx
              obtain ⟨rfl, e2, rfl⟩ := hx
              cases e2
              obtain rfl : m = 0 := by omega
              obtain rfl : hn = 0 := by omega
              obtain rfl : l = 0 := by omega
              exact ⟨.slice none 0 0, by simp [Instr.slice, run_underlying ht, h1, run_sizeA hs], by simp [Rel]⟩
            · rename_i b off
              simp only [Rel] at hx
              obtain ⟨B, o, r, hρ, hlc, rfl⟩ := hx
              have hle : hn - l ≤ m - l := by have := h3 hlc; omega
              split at h
              · rename_i hml
                cases h
                have hml' := Nat.eq_of_beq_eq_true hml
                refine ⟨.slice (some ⟨B, o + off, none⟩) (hn - l) (m - l), ?_, ?_⟩
                · simp [Instr.slice, run_underlying ht, h1, run_sizeA hs, hml']
                · simp only [Rel]; exact ⟨B, o, r, hρ, hle, rfl⟩
              · rename_i hml
                cases h
                have hml' : ¬ m = l := fun e => by subst e; simp at hml
                refine ⟨.slice (some ⟨B, o + (off + l * sz), none⟩) (hn - l) (m - l), ?_, ?_⟩
                · simp [Instr.slice, run_underlying ht, h1, run_sizeA hs, hml', Addr.add_lit, Nat.add_assoc]
                · simp only [Rel]; exact ⟨B, o, r, hρ, hle, rfl⟩
  · rename_i lb s
    split at h
    · cases h
    · rename_i hsz
      have hsz' := Nat.eq_of_beq_eq_true hsz
      subst hsz'
      split at h
      · cases h
      · rename_i b off
        simp only [Rel] at hx
        obtain ⟨B, o, r, cap, hρ, hll, hlc, hfit, hx⟩ := hx
        split at h
        · simp only [RelO] at rm; subst rm
          split at h
          · cases h
          · rename_i hn hh
            split at h
            · cases h
            · rename_i l hl
              cases h
              have hh2 : hn ≤ lb := by
                cases hi with
                | none => simp only [boundOr] at hh; cases hh; exact hll
                | some hv => exact (run_boundA (P := P) w (show boundA hv lb = some hn from hh) (by simp only [RelO] at rh; exact (Classical.choose_spec rh).2) .sliceB).2
              have hl2 : l ≤ hn := by
                cases lo with
                | none => simp only [boundOr] at hl; cases hl; omega
                | some lv => exact (run_boundA (P := P) w (show boundA lv hn = some l from hl) (by simp only [RelO] at rl; exact (Classical.choose_spec rl).2) .sliceB).2
              have hrun : (Instr.sliceBounds true len cap lo' hi' none).run P w = .ok (l, hn, cap) w := by
                cases hi with
                | none =>
                  simp only [RelO] at rh; subst rh
                  simp only [boundOr] at hh; cases hh
                  cases lo with
                  | none => simp only [RelO] at rl; subst rl; simp only [boundOr] at hl; cases hl; simp [Instr.sliceBounds]
                  | some lv =>
                    simp only [RelO] at rl; obtain ⟨lu, rfl, rl⟩ := rl
                    obtain ⟨b1, b2⟩ := run_boundA (P := P) w (show boundA lv len = some l from hl) rl .sliceB
                    simp [Instr.sliceBounds, b1]
                | some hv =>
                  simp only [RelO] at rh; obtain ⟨hu, rfl, rh⟩ := rh
                  obtain ⟨c1, c2⟩ := run_boundA' (P := P) w (show boundA hv lb = some hn from hh) hlc rh .sliceAcap
                  cases lo with
                  | none => simp only [RelO] at rl; subst rl; simp only [boundOr] at hl; cases hl; simp [Instr.sliceBounds, c1]
                  | some lv =>
                    simp only [RelO] at rl; obtain ⟨lu, rfl, rl⟩ := rl
                    obtain ⟨b1, b2⟩ := run_boundA (P := P) w (show boundA lv hn = some l from hl) rl .sliceB
                    simp [Instr.sliceBounds, c1, b1]
              rcases hx with rfl | ⟨hc0, x, rfl⟩
              · by_cases hcl : cap = l
                · subst hcl
                  refine ⟨.slice (some ⟨B, o + off, none⟩) (hn - cap) (cap - cap), by simp [Instr.slice, run_underlying ht, hrun, run_sizeA hs], ?_⟩
                  simp only [Rel]
                  refine ⟨B, o, r, 0, hρ, by omega, by omega, by omega, .inr ⟨rfl, o + off, ?_⟩⟩
                  have : hn - cap = 0 := by omega
                  rw [this, Nat.sub_self]
                · refine ⟨.slice (some ⟨B, o + (off + l * s), none⟩) (hn - l) (cap - l), by simp [Instr.slice, run_underlying ht, hrun, run_sizeA hs, hcl, Addr.add_lit, Nat.add_assoc], ?_⟩
                  simp only [Rel]
                  refine ⟨B, o, r, cap - l, hρ, by omega, by omega, ?_, .inl rfl⟩
                  have : l * s + (cap - l) * s = cap * s := by rw [← Nat.add_mul]; congr 1; omega
                  omega
              · subst hc0
                obtain rfl : lb = 0 := by omega
                obtain rfl : hn = 0 := by omega
                obtain rfl : l = 0 := by omega
                obtain rfl : len = 0 := by omega
                refine ⟨.slice (some ⟨B, x, none⟩) 0 0, by simp [Instr.slice, run_underlying ht, hrun, run_sizeA hs], ?_⟩
                simp only [Rel]
                exact ⟨B, o, r, 0, hρ, by omega, by omega, by omega, .inr ⟨rfl, x, rfl⟩⟩
        · rename_i mv
          simp only [RelO] at rm; obtain ⟨mu, rfl, rm⟩ := rm
          split at h
          · cases h
          · rename_i m hm
            obtain ⟨a1, a2⟩ := run_boundA' (P := P) w hm hlc rm .slice3Acap
            split at h
            · cases h
            · rename_i hv
              simp only [RelO] at rh; obtain ⟨hu, rfl, rh⟩ := rh
              split at h
              · cases h
              · rename_i hn hh
                obtain ⟨c1, c2⟩ := run_boundA (P := P) w hh rh .slice3B
                split at h
                · cases h
                · rename_i l hl
                  split at h
                  · cases h
                  · rename_i hml
                    have hml' : l < m := by
                      have : ¬ m ≤ l := fun e => by rw [Nat.ble_eq_true_of_le e] at hml; cases hml
                      omega
                    cases h
                    have hrun : (Instr.sliceBounds true len cap lo' (some hu) (some mu)).run P w = .ok (l, hn, m) w ∧ l ≤ hn := by
                      cases lo with
                      | none => simp only [RelO] at rl; subst rl; simp only [boundOr] at hl; cases hl; exact ⟨by simp [Instr.sliceBounds, a1, c1], by omega⟩
                      | some lv =>
                        simp only [RelO] at rl; obtain ⟨lu, rfl, rl⟩ := rl
                        obtain ⟨b1, b2⟩ := run_boundA (P := P) w (show boundA lv hn = some l from hl) rl .slice3C
                        exact ⟨by simp [Instr.sliceBounds, a1, c1, b1], b2⟩
                    rcases hx with rfl | ⟨hc0, x, rfl⟩
                    · refine ⟨.slice (some ⟨B, o + (off + l * s), none⟩) (hn - l) (m - l), by simp [Instr.slice, run_underlying ht, hrun.1, run_sizeA hs, show ¬ m = l by omega, Addr.add_lit, Nat.add_assoc], ?_⟩
                      simp only [Rel]
                      exact ⟨B, o, r, hρ, by omega, rfl⟩
                    · omega
end

end Go.Den
