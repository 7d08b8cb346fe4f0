/- Operations that touch no memory: numbers, texts, equality, literals. -/
import Derived.Test.YtkfdfenaaidkkaaSyB
import Derived.Great.FillDense
import Derived.Laws.Panics
import Derived.Laws.StructEq
import Derived.Laws.Cover3
set_option linter.unusedSimpArgs false
set_option linter.unusedVariables false
namespace Go.Sy
open Go

theorem run_underlying' {P : Program} {t : TypeId} {d : TypeDesc} (h : P.underlying t = some d) (w : World) : (underlying t).run P w = .ok d w := run_underlying h w
theorem run_sizeA {P : Program} {t : TypeId} {n : Nat} (h : sizeA P t = some n) (w : World) : (sizeOf t).run P w = .ok n w := by
  unfold sizeA at h
  split at h
  · rename_i i hi; cases h; simp [sizeOf, typeInfo, hi]
  · cases h
theorem run_bytesA {P : Program} {t : TypeId} {n : Nat} (h : bytesA P t = some n) : ∃ i, P.info? t = some i ∧ i.bytes = n := by
  unfold bytesA at h
  split at h
  · rename_i i hi; cases h; exact ⟨i, hi, rfl⟩
  · cases h
theorem run_zeroA {P : Program} {t : TypeId} {z : AV} (h : zeroA P t = some z) (ρ : Rho) : ∃ v, (∀ w, (zeroValue t).run P w = .ok v w) ∧ Rel ρ z v := by
  unfold zeroA at h
  split at h
  · rename_i i hi
    split at h
    · rename_i u hu
      exact ⟨u, fun w => by simp [zeroValue, typeInfo, hi, hu], rel_ofVal _ _ h⟩
    · cases h
  · cases h
theorem run_isAggA {P : Program} {t : TypeId} {b : Bool} (h : isAggA P t = some b) (w : World) : (isAgg t).run P w = .ok b w := by
  unfold isAggA at h
  split at h <;> rename_i hu
  · cases h; simp [isAgg, run_underlying hu]
  · cases h; simp [isAgg, run_underlying hu]
  · rename_i d hn1 hn2 
    cases h
    rename_i d
    cases d <;> first | (simp [isAgg, run_underlying hu]; done) | (exfalso; first | exact hn1 _ rfl | exact hn2 _ _ rfl)
  · cases h
theorem readL_some {cs : List AV} {off n : Nat} {l : List AV} (h : readL cs off n = some l) : off + n ≤ cs.length ∧ l = (cs.drop off).take n := by
  unfold readL at h
  split at h
  · rename_i hb; cases h; exact ⟨Nat.le_of_ble_eq_true hb, rfl⟩
  · cases h
theorem readL_length {cs : List AV} {off n : Nat} {l : List AV} (h : readL cs off n = some l) : l.length = n := by
  obtain ⟨h1, rfl⟩ := readL_some h
  simp; omega

theorem run_part {P : Program} {t : TypeId} {ρ : Rho} {cs : List AV} {vs : List Value} {off : Nat} {a : AV} (h : partA P t cs off = some a) (hr : Rels ρ cs vs) (w : World) :
    ∃ v, (part t vs.toArray off).run P w = .ok v w ∧ Rel ρ a v := by
  unfold partA at h
  cases hg : isAggA P t with
  | none => rw [hg] at h; cases h
  | some b =>
    rw [hg] at h
    cases b with
    | true =>
      simp only at h
      cases hs : sizeA P t with
      | none => rw [hs] at h; cases h
      | some n =>
        rw [hs] at h
        simp only at h
        cases hl : readL cs off n with
        | none => rw [hl] at h; cases h
        | some l =>
          rw [hl] at h
          cases h
          obtain ⟨hle, rfl⟩ := readL_some hl
          refine ⟨.agg (vs.toArray.extract off (off + n)), by simp [part, run_isAggA hg, run_sizeA hs], ?_⟩
          simp only [Rel]
          refine ⟨(vs.drop off).take n, ?_, (hr.drop off).take n⟩
          simp [List.take_drop]
    | false =>
      simp only at h
      obtain ⟨v, hv, hrel⟩ := hr.get off a h
      exact ⟨v, by simp [part, run_isAggA hg, hv], hrel⟩

/- ### texts -/
theorem eqBytes_eq : ∀ (x y : List UInt8), eqBytes x y = (x == y)
  | [], [] => rfl
  | [], _ :: _ => rfl
  | _ :: _, [] => rfl
  | a :: x, b :: y => by
    simp only [eqBytes, eqBytes_eq x y, List.cons_beq_cons]
    congr 1
    rw [Bool.eq_iff_iff]
    constructor
    · intro h; have := Nat.eq_of_beq_eq_true h; simp [UInt8.toNat_inj.1 this]
    · intro h; simp at h; subst h; simp
theorem ltBytes_eq : ∀ (x y : List UInt8), ltBytes x y = Op.bytesLess x y
  | [], [] => rfl
  | [], _ :: _ => rfl
  | _ :: _, [] => rfl
  | a :: x, b :: y => by
    simp only [ltBytes, Op.bytesLess, ltBytes_eq x y]
    have h1 : Nat.blt a.toNat b.toNat = decide (a < b) := by
      rw [Bool.eq_iff_iff]; simp [Nat.blt_eq, UInt8.lt_iff_toNat_lt]
    have h2 : Nat.beq a.toNat b.toNat = (a == b) := by
      rw [Bool.eq_iff_iff]
      constructor
      · intro h; have := Nat.eq_of_beq_eq_true h; simp [UInt8.toNat_inj.1 this]
      · intro h; simp at h; subst h; simp
    rw [h1, h2]
theorem toList_mk (l : List UInt8) : (ByteArray.mk l.toArray).toList = l := by rw [ByteArray.toList_eq]

/- ### numbers -/
theorem run_intOp {P : Program} {op : BinOp} {k : IntKind} {x y : Int} {a : AV} (h : intOp op k x y = some (true, a)) (t : TypeId) (w : World) (ρ : Rho) :
    ∃ v, (binOp op t (.int k x) (.int k y)).run P w = .ok v w ∧ Rel ρ a v := by
  cases op <;> simp only [intOp, Option.some.injEq, Prod.mk.injEq, Bool.not_eq_true', decide_eq_false_iff_not, true_and, reduceCtorEq] at h
  case quo => obtain ⟨hy, rfl⟩ := h; exact ⟨.int k (k.wrap (x.tdiv y)), by simp [binOp, Op.intDiv, hy], by simp [Rel]⟩
  case rem => obtain ⟨hy, rfl⟩ := h; exact ⟨.int k (x.tmod y), by simp [binOp, Op.intDiv, hy], by simp [Rel]⟩
  case eql => subst h; exact ⟨.bool (decide (x = y)), by simp [binOp, Op.intCmp]; rfl, by simp [Rel]⟩
  case neq => subst h; exact ⟨.bool (!decide (x = y)), by simp [binOp, Op.intCmp]; rfl, by simp [Rel]⟩
  all_goals
    subst h
    first
      | exact ⟨_, by simp [binOp, Op.intArith]; rfl, by simp [Rel]⟩
      | exact ⟨_, by simp [binOp, Op.intBits]; rfl, by simp [Rel]⟩
      | exact ⟨_, by simp [binOp, Op.intCmp]; rfl, by simp [Rel]⟩
theorem run_shiftOp {P : Program} {op : BinOp} {k k' : IntKind} {x y : Int} {a : AV} (ho : op = .shl ∨ op = .shr) (h : shiftOp op k x y = some (true, a)) (t : TypeId) (w : World) (ρ : Rho) :
    ∃ v, (binOp op t (.int k x) (.int k' y)).run P w = .ok v w ∧ Rel ρ a v := by
  rcases ho with rfl | rfl <;> simp only [shiftOp, Option.some.injEq, Prod.mk.injEq, Bool.not_eq_true', decide_eq_false_iff_not] at h <;> obtain ⟨hy', rfl⟩ := h <;>
    exact ⟨_, by simp [binOp, Op.shift, hy']; rfl, by simp [Rel]⟩
theorem run_strOp {P : Program} {op : BinOp} {x y : List UInt8} {a : AV} (h : strOp op x y = some (true, a)) (t : TypeId) (w : World) (ρ : Rho) :
    ∃ v, (binOp op t (.string ⟨x.toArray⟩) (.string ⟨y.toArray⟩)).run P w = .ok v w ∧ Rel ρ a v := by
  cases op <;> simp only [strOp, Option.some.injEq, Prod.mk.injEq, true_and, reduceCtorEq] at h
  case add =>
    obtain ⟨hb, rfl⟩ := h
    have hle := Nat.le_of_ble_eq_true hb
    refine ⟨.string (⟨x.toArray⟩ ++ ⟨y.toArray⟩), ?_, ?_⟩
    · have hs : ¬ (((ByteArray.mk x.toArray).size + (ByteArray.mk y.toArray).size : Nat) : Int) > IntKind.i64.max := by
        have e1 : (ByteArray.mk x.toArray).size = x.length := by simp [ByteArray.size]
        have e2 : (ByteArray.mk y.toArray).size = y.length := by simp [ByteArray.size]
        rw [e1, e2]
        have e3 : IntKind.i64.max = 9223372036854775807 := by decide
        rw [e3]
        omega
      simp only [binOp, Op.stringOp]
      rw [Sem.run_ite, if_neg hs]
      rfl
    · simp only [Rel, Value.string.injEq]
      apply ByteArray.ext
      simp [ByteArray.data_append]
  case eql => subst h; exact ⟨_, rfl, by simp [Rel, eqBytes_eq, toList_mk]⟩
  case neq => subst h; exact ⟨_, rfl, by simp [Rel, eqBytes_eq, toList_mk]⟩
  case lss => subst h; exact ⟨_, rfl, by simp [Rel, ltBytes_eq, toList_mk]⟩
  case leq => subst h; exact ⟨_, rfl, by simp [Rel, eqBytes_eq, ltBytes_eq, toList_mk]⟩
  case gtr => subst h; exact ⟨_, rfl, by simp [Rel, eqBytes_eq, ltBytes_eq, toList_mk]⟩
  case geq => subst h; exact ⟨_, rfl, by simp [Rel, ltBytes_eq, toList_mk]⟩

/- ### equality -/
theorem Rel.str_inv {ρ : Rho} {s : List UInt8} {v : Value} (h : Rel ρ (.str s) v) : v = .string ⟨s.toArray⟩ := by simpa [Rel] using h

theorem fieldsOf_eq {P : Program} {t : TypeId} {fs : Array Field} (h : P.underlying t = some (.struct fs)) : P.fieldsOf t = fs := by simp [Program.fieldsOf, h]

section
variable {P : Program} (w : World) (D : Nat) (t : TypeId)
theorem eqIn_ptr_nil {e : TypeId} (h : P.underlying t = some (.pointer e)) (b : Option Addr) : (Op.equalIn (D + 1) t (.pointer none) (.pointer b)).run P w = .ok b.isNone w := by
  simp [Op.equalIn, run_underlying h]
theorem eqIn_ptr_some {e : TypeId} (h : P.underlying t = some (.pointer e)) (b : Addr) : (Op.equalIn (D + 1) t (.pointer (some b)) (.pointer none)).run P w = .ok false w := by
  simp [Op.equalIn, run_underlying h]
theorem eqIn_sl_nil {e : TypeId} (h : P.underlying t = some (.slice e)) (n c : Nat) (b : Option Addr) (n' c' : Nat) : (Op.equalIn (D + 1) t (.slice none n c) (.slice b n' c')).run P w = .ok b.isNone w := by
  simp [Op.equalIn, run_underlying h]
theorem eqIn_sl_some {e : TypeId} (h : P.underlying t = some (.slice e)) (n c : Nat) (b : Addr) (n' c' : Nat) : (Op.equalIn (D + 1) t (.slice (some b) n c) (.slice none n' c')).run P w = .ok false w := by
  simp [Op.equalIn, run_underlying h]
theorem eqIn_fn_nil {p r : Array TypeId} {v : Bool} (h : P.underlying t = some (.func p r v)) : (Op.equalIn (D + 1) t .nilFunc .nilFunc).run P w = .ok true w := by
  simp [Op.equalIn, run_underlying h]
theorem eqIn_fn_some {p r : Array TypeId} {v : Bool} (h : P.underlying t = some (.func p r v)) (f : Fn) (a b : Array Value) : (Op.equalIn (D + 1) t (.func f a b) .nilFunc).run P w = .ok false w := by
  simp [Op.equalIn, run_underlying h]
theorem eqIn_nil_fn {p r : Array TypeId} {v : Bool} (h : P.underlying t = some (.func p r v)) (f : Fn) (a b : Array Value) : (Op.equalIn (D + 1) t .nilFunc (.func f a b)).run P w = .ok false w := by
  simp [Op.equalIn, run_underlying h]
end


theorem Rel.ptr_form {ρ : Rho} {a : Option (Nat × Nat)} {u : Value} (h : Rel ρ (.ptr a) u) : ∃ p, u = .pointer p := by
  rcases a with _ | ⟨_, _⟩ <;> simp only [Rel] at h
  · exact ⟨_, h⟩
  · obtain ⟨B, o, q, _, e⟩ := h; exact ⟨_, e⟩
theorem Rel.fref_form {ρ : Rho} {sh : Sh} {d : D} {u : Value} (h : Rel ρ (.fref sh d) u) : ∃ p, u = .pointer (some p) := by
  simp only [Rel] at h; obtain ⟨_, _, _, e, _⟩ := h; exact ⟨_, e⟩
theorem Rel.eptr_form {ρ : Rho} {sh : Sh} {b i fo : Nat} {u : Value} (h : Rel ρ (.eptr sh b i fo) u) : ∃ p, u = .pointer (some p) := by
  simp only [Rel] at h; obtain ⟨_, _, _, _, e⟩ := h; exact ⟨_, e⟩
/-- A slice that is not nil. -/
theorem FzR.some_form {F : Nat → Nat → Option Value} {sz : Nat} {R : D → List Value → Prop} {nn : Bool} {l : List D} {v : Value} (h : FzR F sz R nn l v) (hn : nn = true ∨ 0 < l.length) : ∃ p c, v = .slice (some p) l.length c := by
  rcases h with ⟨rfl, rfl, rfl⟩ | ⟨B, o, cap, rfl, _⟩
  · rcases hn with h | h
    · cases h
    · simp at h
  · exact ⟨_, _, rfl⟩
theorem Rel.tsl_some {ρ : Rho} {nn : Bool} {e : Sh} {b off len : Nat} {cap : Cap} {v : Value} (h : Rel ρ (.tsl nn e b off len cap) v) (hn : nn = true ∨ 0 < len) : ∃ p c, v = .slice (some p) len c := by
  simp only [Rel] at h
  obtain ⟨B, o, r, h1, ⟨rfl, rfl, _, _, rfl⟩ | ⟨c, h2, h3, _, h4, rfl | ⟨rfl, x, rfl⟩⟩⟩ := h
  · rcases hn with h | h
    · cases h
    · simp at h
  · exact ⟨_, _, rfl⟩
  · obtain rfl : len = 0 := by omega
    exact ⟨_, _, rfl⟩

mutual
theorem run_eqA {P : Program} {ρ : Rho} : ∀ (d D : Nat) (t : TypeId) (x y : AV) (r : Bool) (u v : Value) (w : World), d ≤ D → eqA P d t x y = some (true, r) → Rel ρ x u → Rel ρ y v →
    (Op.equalIn D t u v).run P w = .ok r w
  | 0, _, _, _, _, _, _, _, _, _, h, _, _ => by simp [eqA] at h
  | d + 1, 0, _, _, _, _, _, _, _, hd, _, _, _ => by omega
  | d + 1, D + 1, t, x, y, r, u, v, w, hd, h, hu, hv => by
    simp only [eqA] at h
    split at h
    · rename_i ht
      split at h
      · cases h; simp only [Rel] at hu hv; subst hu; subst hv; exact run_equalIn_bool' w D t _ _ ht
      · cases h
    · rename_i k0 ht
      split at h
      · rename_i k a k' b
        split at h
        · rename_i hk
          have hk' : k = k' := of_decide_eq_true hk
          cases h; simp only [Rel] at hu hv; subst hu; subst hv; subst hk'
          rw [run_equalIn_int w D t k k0 _ _ ht]; rfl
        · cases h
      · cases h
    · rename_i ht
      split at h
      · cases h; have e1 := hu.str_inv; have e2 := hv.str_inv; subst e1; subst e2
        rw [run_equalIn_string w D t _ _ ht, toList_mk, toList_mk, eqBytes_eq]
      · cases h
    · rename_i e0 ht
      split at h
      · rename_i b
        cases h
        simp only [Rel] at hu; subst hu
        rcases b with _ | ⟨b, off⟩ <;> simp only [Rel] at hv
        · subst hv; exact eqIn_ptr_nil w D t ht _
        · obtain ⟨B, o, q, _, rfl⟩ := hv; exact eqIn_ptr_nil w D t ht _
      · rename_i a
        obtain ⟨b, off⟩ := a
        cases h
        simp only [Rel] at hu hv
        obtain ⟨B, o, q, _, rfl⟩ := hu; subst hv; exact eqIn_ptr_some w D t ht _
      · cases h; obtain ⟨p, rfl⟩ := hu.fref_form; simp only [Rel] at hv; subst hv; exact eqIn_ptr_some w D t ht _
      · cases h; obtain ⟨p, rfl⟩ := hv.fref_form; simp only [Rel] at hu; subst hu; exact eqIn_ptr_nil w D t ht _
      · cases h; obtain ⟨p, rfl⟩ := hu.eptr_form; simp only [Rel] at hv; subst hv; exact eqIn_ptr_some w D t ht _
      · cases h; obtain ⟨p, rfl⟩ := hv.eptr_form; simp only [Rel] at hu; subst hu; exact eqIn_ptr_nil w D t ht _
      · cases h
    · rename_i e0 ht
      split at h
      · cases h; simp only [Rel] at hu hv; subst hu; subst hv; exact eqIn_sl_nil w D t ht _ _ _ _ _
      · cases h; simp only [Rel] at hu hv; obtain ⟨B, o, q, _, _, rfl⟩ := hu; subst hv; exact eqIn_sl_some w D t ht _ _ _ _ _
      · rename_i nn e1 l
        have hv' := hv
        simp only [Rel] at hu hv'
        subst hv'
        split at h
        · cases h; obtain ⟨p, c, rfl⟩ := hu.some_form (.inl rfl); exact eqIn_sl_some w D t ht _ _ _ _ _
        · simp only [Option.some.injEq, Prod.mk.injEq] at h
          obtain ⟨h1, rfl⟩ := h
          obtain ⟨p, c, rfl⟩ := hu.some_form (.inr (by simpa [Nat.blt_eq] using h1)); exact eqIn_sl_some w D t ht _ _ _ _ _
      · rename_i nn e1 b off len cap
        have hv' := hv
        simp only [Rel] at hv'
        subst hv'
        split at h
        · cases h; obtain ⟨p, c, rfl⟩ := hu.tsl_some (.inl rfl); exact eqIn_sl_some w D t ht _ _ _ _ _
        · simp only [Option.some.injEq, Prod.mk.injEq] at h
          obtain ⟨h1, rfl⟩ := h
          obtain ⟨p, c, rfl⟩ := hu.tsl_some (.inr (by simpa [Nat.blt_eq] using h1)); exact eqIn_sl_some w D t ht _ _ _ _ _
      · cases h
    · rename_i p0 r0 v0 ht
      split at h
      · cases h; simp only [Rel] at hu hv; subst hu; subst hv; exact eqIn_fn_nil w D t ht
      · cases h; simp only [Rel] at hu hv; subst hu; obtain ⟨_, _, rfl, _⟩ := hv; exact eqIn_nil_fn w D t ht _ _ _
      · cases h; simp only [Rel] at hu hv; subst hv; obtain ⟨_, _, rfl, _⟩ := hu; exact eqIn_fn_some w D t ht _ _ _
      · cases h
    · rename_i fs ht
      split at h
      · rename_i xs ys
        split at h
        · cases h
        · rename_i hp
          simp only [Rel] at hu hv
          obtain ⟨l, rfl, hl⟩ := hu
          obtain ⟨m, rfl, hm⟩ := hv
          rw [run_equalIn_struct w D t _ _ (by rw [fieldsOf_eq ht]; exact ht) hp, fieldsOf_eq ht]
          exact run_eqFieldsA d D fs.toList xs ys r l m w (by omega) h hl hm
      · cases h
    · rename_i len e ht
      split at h
      · rename_i xs ys
        split at h
        · rename_i n hn
          simp only [Rel] at hu hv
          obtain ⟨l, rfl, hl⟩ := hu
          obtain ⟨m, rfl, hm⟩ := hv
          have hi : ∃ i, P.info? e = some i ∧ P.cellsOf e = n := by
            unfold sizeA at hn
            split at hn
            · rename_i i hi; cases hn; exact ⟨i, hi, by simp [Program.cellsOf, hi]⟩
            · cases hn
          obtain ⟨i, hi, hc⟩ := hi
          rw [run_equalIn_array w D _ _ ht hi, hc, List.range_eq_range']
          exact run_eqElemsA d D e n xs ys len 0 r l m w (by omega) h hl hm
        · cases h
      · cases h
    · cases h
theorem run_eqFieldsA {P : Program} {ρ : Rho} : ∀ (d D : Nat) (fs : List Field) (xs ys : List AV) (r : Bool) (us vs : List Value) (w : World), d ≤ D → eqFieldsA P d fs xs ys = some (true, r) → Rels ρ xs us → Rels ρ ys vs →
    (Op.eqFields D us.toArray vs.toArray fs).run P w = .ok r w
  | 0, _, _, _, _, _, _, _, _, _, h, _, _ => by simp [eqFieldsA] at h
  | d + 1, 0, _, _, _, _, _, _, _, hd, _, _, _ => by omega
  | d + 1, D + 1, [], xs, ys, r, us, vs, w, hd, h, hx, hy => by
    simp only [eqFieldsA] at h; cases h; simp [Op.eqFields]
  | d + 1, D + 1, f :: fs, xs, ys, r, us, vs, w, hd, h, hx, hy => by
    simp only [eqFieldsA] at h
    split at h
    · rename_i hn
      have hn' : f.name = "_" := by simpa using hn
      simp only [Op.eqFields, hn', ne_eq, not_true_eq_false, if_false]
      exact run_eqFieldsA d (D + 1) fs xs ys r us vs w (by omega) h hx hy
    · rename_i hn
      have hn' : ¬ f.name = "_" := by simpa using hn
      split at h
      · cases h
      · rename_i a ha
        split at h
        · cases h
        · rename_i b hb
          obtain ⟨u, hu, ru⟩ := run_part ha hx w
          obtain ⟨v, hv, rv⟩ := run_part hb hy w
          split at h
          · cases h
          · rename_i g r1 he
            split at h
            · cases h
            · rename_i g' r2 hr
              simp only [Option.some.injEq, Prod.mk.injEq, Bool.and_eq_true] at h
              obtain ⟨⟨rfl, rfl⟩, rfl⟩ := h
              have h1 := run_eqA d (D + 1) f.type a b r1 u v w (by omega) he ru rv
              have h2 := run_eqFieldsA d (D + 1) fs xs ys r2 us vs w (by omega) hr hx hy
              simp only [Op.eqFields, hn', ne_eq, not_false_eq_true, if_true, Sem.run_bind, hu, hv, h1, Result.andThen_ok]
              cases r1
              · simp
              · simpa using h2
theorem run_eqElemsA {P : Program} {ρ : Rho} : ∀ (d D : Nat) (e : TypeId) (n : Nat) (xs ys : List AV) (k i : Nat) (r : Bool) (us vs : List Value) (w : World), d ≤ D → eqElemsA P d e n xs ys k i = some (true, r) → Rels ρ xs us → Rels ρ ys vs →
    (Op.eqItems D e n us.toArray vs.toArray (List.range' i k)).run P w = .ok r w
  | 0, _, _, _, _, _, _, _, _, _, _, _, _, h, _, _ => by simp [eqElemsA] at h
  | d + 1, 0, _, _, _, _, _, _, _, _, _, _, hd, _, _, _ => by omega
  | d + 1, D + 1, e, n, xs, ys, 0, i, r, us, vs, w, hd, h, hx, hy => by
    simp only [eqElemsA] at h; cases h; simp [Op.eqItems]
  | d + 1, D + 1, e, n, xs, ys, k + 1, i, r, us, vs, w, hd, h, hx, hy => by
    simp only [eqElemsA] at h
    split at h
    · cases h
    · rename_i a ha
      split at h
      · cases h
      · rename_i b hb
        obtain ⟨u, hu, ru⟩ := run_part ha hx w
        obtain ⟨v, hv, rv⟩ := run_part hb hy w
        split at h
        · cases h
        · rename_i g r1 he
          split at h
          · cases h
          · rename_i g' r2 hr
            simp only [Option.some.injEq, Prod.mk.injEq, Bool.and_eq_true] at h
            obtain ⟨⟨rfl, rfl⟩, rfl⟩ := h
            have h1 := run_eqA d (D + 1) e a b r1 u v w (by omega) he ru rv
            have h2 := run_eqElemsA d (D + 1) e n xs ys k (i + 1) r2 us vs w (by omega) hr hx hy
            simp only [List.range'_succ, Op.eqItems, Sem.run_bind, hu, hv, h1, Result.andThen_ok]
            cases r1
            · simp
            · simpa using h2
end

section
variable {P : Program} {ρ : Rho} (w : World)
theorem run_equalA {t : TypeId} {x y : AV} {r : Bool} {u v : Value} (h : equalA P t x y = some (true, r)) (hu : Rel ρ x u) (hv : Rel ρ y v) :
    (Op.equal t u v).run P w = .ok r w ∧ ∀ (op : BinOp) (a b : Operand), (eqGuard op t a b u v).run P w = .ok () w := by
  unfold equalA at h
  split at h
  · cases h
  · rename_i hg
    refine ⟨run_eqA 200 10000 t x y r u v w (by omega) h hu hv, fun op a b => ?_⟩
    cases x with
    | agg cs =>
      have hg' : P.eqGuardType P.depth t = false := by simpa [isAggV] using hg
      simp only [Rel] at hu
      obtain ⟨l, rfl, _⟩ := hu
      by_cases hv' : ∃ m, v = .agg m
      · obtain ⟨m, rfl⟩ := hv'; exact run_eqGuard_agg w op t a b _ _ hg'
      · have : eqGuard op t a b (.agg l.toArray) v = pure () := by
          cases op <;> cases v <;> first | rfl | exact absurd ⟨_, rfl⟩ hv'
        rw [this]; rfl
    | any => simp [Rel] at hu
    | lit x' => simp only [eqA] at h; revert h; split <;> (intro h; first | cases h | (split at h <;> cases h))
    | tup x' => simp only [eqA] at h; revert h; split <;> (intro h; first | cases h | (split at h <;> cases h))
    | bool b' => simp only [Rel] at hu; subst hu; rw [eqGuard_at_bool]; rfl
    | int k n => simp only [Rel] at hu; subst hu; rw [eqGuard_at_int]; rfl
    | str s => simp only [Rel] at hu; subst hu; rw [eqGuard_at_string]; rfl
    | nilFn => simp only [Rel] at hu; subst hu; cases op <;> rfl
    | fn f x y =>
      simp only [Rel] at hu
      obtain ⟨a1, a2, rfl, _⟩ := hu
      rw [eqGuard_at_func]; rfl
    | ptr p => obtain ⟨q, rfl⟩ := hu.ptr_form; rw [eqGuard_at_pointer]; rfl
    | fref sh d => obtain ⟨q, rfl⟩ := hu.fref_form; rw [eqGuard_at_pointer]; rfl
    | eptr e b i fo => obtain ⟨q, rfl⟩ := hu.eptr_form; rw [eqGuard_at_pointer]; rfl
    | nilSl => simp only [Rel] at hu; subst hu; rw [eqGuard_at_slice]; rfl
    | sl b off len cap => simp only [Rel] at hu; obtain ⟨B, o, q, _, _, rfl⟩ := hu; rw [eqGuard_at_slice]; rfl
    | fz nn e l => simp only [Rel] at hu; obtain ⟨p, c, rfl⟩ := hu.form; rw [eqGuard_at_slice]; rfl
    | tsl nn e b off len cap => obtain ⟨p, c, rfl⟩ := hu.tsl_form; rw [eqGuard_at_slice]; rfl

/-- Two real values that '==' of the abstract machine tells of, beside numbers and texts. -/
def pairV : Value → Value → Bool
  | .bool _, .bool _ => true
  | .pointer _, .pointer _ => true
  | .slice _ _ _, .slice _ _ _ => true
  | .nilFunc, .nilFunc => true
  | .nilFunc, .func _ _ _ => true
  | .func _ _ _, .nilFunc => true
  | .agg _, .agg _ => true
  | _, _ => false
theorem eqA_shape {d : Nat} {t : TypeId} {x y : AV} {gr : Bool × Bool} {u v : Value} (h : eqA P d t x y = some gr) (hu : Rel ρ x u) (hv : Rel ρ y v) :
    (∃ k n k' m, x = .int k n ∧ y = .int k' m) ∨ (∃ a b, x = .str a ∧ y = .str b) ∨ pairV u v = true := by
  cases d with
  | zero => simp [eqA] at h
  | succ d =>
    simp only [eqA] at h
    split at h
    · split at h
      · simp only [Rel] at hu hv; subst hu; subst hv; exact .inr (.inr rfl)
      · cases h
    · split at h
      · exact .inl ⟨_, _, _, _, rfl, rfl⟩
      · cases h
    · split at h
      · exact .inr (.inl ⟨_, _, rfl, rfl⟩)
      · cases h
    · split at h
      · obtain ⟨p, rfl⟩ := hu.ptr_form; obtain ⟨q, rfl⟩ := hv.ptr_form; exact .inr (.inr rfl)
      · obtain ⟨p, rfl⟩ := hu.ptr_form; obtain ⟨q, rfl⟩ := hv.ptr_form; exact .inr (.inr rfl)
      · obtain ⟨p, rfl⟩ := hu.fref_form; obtain ⟨q, rfl⟩ := hv.ptr_form; exact .inr (.inr rfl)
      · obtain ⟨p, rfl⟩ := hu.ptr_form; obtain ⟨q, rfl⟩ := hv.fref_form; exact .inr (.inr rfl)
      · obtain ⟨p, rfl⟩ := hu.eptr_form; obtain ⟨q, rfl⟩ := hv.ptr_form; exact .inr (.inr rfl)
      · obtain ⟨p, rfl⟩ := hu.ptr_form; obtain ⟨q, rfl⟩ := hv.eptr_form; exact .inr (.inr rfl)
      · cases h
    · split at h
      · simp only [Rel] at hu hv; subst hu; subst hv; exact .inr (.inr rfl)
      · simp only [Rel] at hu hv; obtain ⟨B, o, q, _, _, rfl⟩ := hu; subst hv; exact .inr (.inr rfl)
      · simp only [Rel] at hu hv; obtain ⟨p, c, rfl⟩ := hu.form; subst hv; exact .inr (.inr rfl)
      · obtain ⟨p, c, rfl⟩ := hu.tsl_form; simp only [Rel] at hv; subst hv; exact .inr (.inr rfl)
      · cases h
    · split at h
      · simp only [Rel] at hu hv; subst hu; subst hv; exact .inr (.inr rfl)
      · simp only [Rel] at hu hv; subst hu; obtain ⟨_, _, rfl, _⟩ := hv; exact .inr (.inr rfl)
      · simp only [Rel] at hu hv; subst hv; obtain ⟨_, _, rfl, _⟩ := hu; exact .inr (.inr rfl)
      · cases h
    · split at h
      · simp only [Rel] at hu hv; obtain ⟨_, rfl, _⟩ := hu; obtain ⟨_, rfl, _⟩ := hv; exact .inr (.inr rfl)
      · cases h
    · split at h
      · simp only [Rel] at hu hv; obtain ⟨_, rfl, _⟩ := hu; obtain ⟨_, rfl, _⟩ := hv; exact .inr (.inr rfl)
      · cases h
    · cases h
theorem binOp_eql_eq {t : TypeId} {u v : Value} (hp : pairV u v = true) : binOp .eql t u v = (do pure (.bool (← Op.equal t u v))) := by
  cases u <;> cases v <;> first | rfl | (simp [pairV] at hp)
theorem binOp_neq_eq {t : TypeId} {u v : Value} (hp : pairV u v = true) : binOp .neq t u v = (do pure (.bool (!(← Op.equal t u v)))) := by
  cases u <;> cases v <;> first | rfl | (simp [pairV] at hp)


theorem run_binA {op : BinOp} {t : TypeId} {x y a : AV} {u v : Value} (h : binA P op t x y = some (true, a)) (hu : Rel ρ x u) (hv : Rel ρ y v) (p q : Operand) :
    ∃ r, (do eqGuard op t p q u v; binOp op t u v : Sem Value).run P w = .ok r w ∧ Rel ρ a r := by
  unfold binA at h
  split at h
  · rename_i k n k' m
    simp only [Rel] at hu hv; subst hu; subst hv
    rw [eqGuard_at_int]
    simp only [Sem.run_bind, Sem.run_pure, Result.andThen_ok]
    split at h
    · exact run_shiftOp (.inl rfl) h t w ρ
    · exact run_shiftOp (.inr rfl) h t w ρ
    · split at h
      · rename_i hk
        have hk' : k = k' := of_decide_eq_true hk
        subst hk'
        exact run_intOp h t w ρ
      · cases h
  · rename_i s1 s2
    have e1 := hu.str_inv
    have e2 := hv.str_inv
    subst e1; subst e2
    rw [eqGuard_at_string]
    simp only [Sem.run_bind, Sem.run_pure, Result.andThen_ok]
    exact run_strOp h t w ρ
  · rename_i hi hs
    split at h
    · split at h
      · rename_i g r hr
        simp only [Option.some.injEq, Prod.mk.injEq] at h
        obtain ⟨rfl, rfl⟩ := h
        obtain ⟨h1, h2⟩ := run_equalA w hr hu hv
        have he : eqA P 200 t x y = some (true, r) := by unfold equalA at hr; split at hr <;> first | cases hr | exact hr
        rcases eqA_shape he hu hv with ⟨k, n, k', m, rfl, rfl⟩ | ⟨s1, s2, rfl, rfl⟩ | hp
        · exact absurd rfl (hi _ _ _ _ rfl)
        · exact absurd rfl (hs _ _ rfl)
        · refine ⟨.bool r, ?_, by simp [Rel]⟩
          rw [binOp_eql_eq hp]
          simp [h2, h1]
      · cases h
    · split at h
      · rename_i g r hr
        simp only [Option.some.injEq, Prod.mk.injEq] at h
        obtain ⟨rfl, rfl⟩ := h
        obtain ⟨h1, h2⟩ := run_equalA w hr hu hv
        have he : eqA P 200 t x y = some (true, r) := by unfold equalA at hr; split at hr <;> first | cases hr | exact hr
        rcases eqA_shape he hu hv with ⟨k, n, k', m, rfl, rfl⟩ | ⟨s1, s2, rfl, rfl⟩ | hp
        · exact absurd rfl (hi _ _ _ _ rfl)
        · exact absurd rfl (hs _ _ rfl)
        · refine ⟨.bool (!r), ?_, by simp [Rel]⟩
          rw [binOp_neq_eq hp]
          simp [h2, h1]
      · cases h
    · cases h

theorem run_unA {op : UnOp} {x a : AV} {u : Value} (h : unA op x = some (true, a)) (hu : Rel ρ x u) : ∃ r, (Op.unary op u).run P w = .ok r w ∧ Rel ρ a r := by
  unfold unA at h
  split at h
  · cases h; simp only [Rel] at hu; subst hu; exact ⟨_, by simp [Op.unary, Op.intArith]; rfl, by simp [Rel]⟩
  · rename_i k n
    simp only [Rel] at hu; subst hu
    simp only [intOp, Option.some.injEq, Prod.mk.injEq, true_and] at h
    subst h
    exact ⟨_, by simp [Op.unary, Op.intBits]; rfl, by simp [Rel]⟩
  · cases h; simp only [Rel] at hu; subst hu; exact ⟨_, by simp [Op.unary]; rfl, by simp [Rel]⟩
  · cases h

/- ### literals -/
theorem writeL_length (cs : List AV) (off : Nat) (vs : List AV) (h : off + vs.length ≤ cs.length) : (writeL cs off vs).length = cs.length := by
  simp [writeL]; omega
def writeV (cs : List Value) (off : Nat) (vs : List Value) : List Value := cs.take off ++ (vs ++ cs.drop (off + vs.length))
theorem Rels.write {cs vs : List AV} {cs' vs' : List Value} {off : Nat} (h : Rels ρ cs cs') (k : Rels ρ vs vs') : Rels ρ (writeL cs off vs) (writeV cs' off vs') := by
  unfold writeL writeV
  rw [k.length]
  exact (h.take _).append (k.append (h.drop _))
theorem foldl_write (off : Nat) (l : List Value) (cs : Array Value) (h : off + l.length ≤ cs.size) :
    (l.zipIdx 0).foldl (fun cs (x : Value × Nat) => cs.setIfInBounds (off + x.2) x.1) cs = (writeV cs.toList off l).toArray := by
  obtain ⟨h1, h2⟩ := Great.foldl_set off l 0 cs
  apply Array.ext'
  apply List.ext_getElem?
  intro k
  have h3 := h2 k
  simp only [Nat.add_zero] at h3
  rw [Array.getElem?_toList, h3]
  simp only [writeV]
  by_cases hk : off ≤ k ∧ k < off + l.length ∧ k < cs.size
  · rw [if_pos hk]
    rw [List.getElem?_append_right (by simp; omega), List.getElem?_append_left (by simp; omega)]
    simp [Nat.min_eq_left (show off ≤ cs.size by omega)]
  · rw [if_neg hk]
    by_cases h4 : k < off
    · rw [List.getElem?_append_left (by simp; omega)]
      simp [h4]
    · by_cases h5 : k < cs.size
      · rw [List.getElem?_append_right (by simp; omega), List.getElem?_append_right (by simp; omega)]
        simp [Nat.min_eq_left (show off ≤ cs.size by omega)]
        congr 1; omega
      · rw [List.getElem?_eq_none (by simp; omega), Array.getElem?_eq_none (by omega)]
def RelParts (ρ : Rho) : List (Nat × AV) → List (Nat × Value) → Prop
  | [], l => l = []
  | (i, a) :: as, l => ∃ v vs, l = (i, v) :: vs ∧ Rel ρ a v ∧ RelParts ρ as vs
theorem fill_fillA {place placeV : Nat → Option (Nat × Nat)} (hp : ∀ i x, place i = some x → placeV i = some x) : ∀ (ps : List (Nat × AV)) (qs : List (Nat × Value)) (cs : List AV) (cs' : List Value) (r : List AV),
    fillA place cs ps = some r → RelParts ρ ps qs → Rels ρ cs cs' → ∃ r', Instr.fill placeV cs'.toArray qs = some r'.toArray ∧ Rels ρ r r'
  | [], qs, cs, cs', r, h, hq, hc => by
    simp only [RelParts] at hq; subst hq
    simp only [fillA] at h; cases h
    exact ⟨cs', rfl, hc⟩
  | (i, a) :: ps, qs, cs, cs', r, h, hq, hc => by
    simp only [RelParts] at hq
    obtain ⟨v, vs, rfl, hv, hq'⟩ := hq
    simp only [fillA] at h
    split at h
    · cases h
    · rename_i off size hpl
      split at h
      · rename_i hb
        simp only [Bool.and_eq_true] at hb
        have e1 := Nat.eq_of_beq_eq_true hb.1
        have e2 := Nat.le_of_ble_eq_true hb.2
        have hl := hv.cells.length
        have hcl := hc.length
        simp only [Array.length_toList] at hl
        obtain ⟨r', hr', hrel⟩ := fill_fillA hp ps vs (writeL cs off a.cells) (writeV cs' off v.cells.toList) r h hq' (hc.write hv.cells)
        refine ⟨r', ?_, hrel⟩
        rw [← hr']
        conv => lhs; unfold Instr.fill
        simp only [hp _ _ hpl]
        rw [if_neg (by simp; omega)]
        congr 1
        rw [← Array.foldl_toList, Array.toList_zipIdx]
        exact foldl_write off v.cells.toList cs'.toArray (by simp; omega)
      · cases h

theorem run_placesA : ∀ (fs : List Field) (l : List (Nat × Nat)) (w : World), placesA P fs = some l → (fs.mapM fun f => (do pure (f.offset, ← sizeOf f.type) : Sem (Nat × Nat))).run P w = .ok l w
  | [], l, w, h => by simp only [placesA] at h; cases h; simp
  | f :: fs, l, w, h => by
    simp only [placesA] at h
    split at h
    · cases h
    · rename_i n hn
      split at h
      · cases h
      · rename_i l' hl'
        cases h
        have ih := run_placesA fs l' w hl'
        rw [List.mapM_cons]
        simp only [Sem.run_bind, run_sizeA hn, Result.andThen_ok, Sem.run_pure, ih]
theorem run_buildA {t : TypeId} {ps : List (Nat × AV)} {qs : List (Nat × Value)} {a : AV} (h : buildA P t ps = some a) (hq : RelParts ρ ps qs) :
    ∃ v, (Instr.build t qs.toArray).run P w = .ok v w ∧ Rel ρ a v := by
  unfold buildA at h
  split at h
  · cases h
  · rename_i z hz
    obtain ⟨zv, hzr, hzrel⟩ := run_zeroA hz ρ
    split at h
    · rename_i fields hu
      split at h
      · cases h
      · rename_i pl hpl
        split at h
        · rename_i cs hf
          cases h
          obtain ⟨r', hr', hrel⟩ := fill_fillA (placeV := fun i => pl.toArray[i]?) (by intro i x hx; simpa using hx) ps qs z.cells zv.cells.toList cs hf hq hzrel.cells
          refine ⟨.agg r'.toArray, ?_, by simp only [Rel]; exact ⟨r', rfl, hrel⟩⟩
          have hm : (fields.mapM fun f => (do pure (f.offset, ← sizeOf f.type) : Sem (Nat × Nat))).run P w = .ok pl.toArray w := by
            rw [Array.mapM_eq_mapM_toList, Sem.run_map, run_placesA fields.toList pl w hpl]
            rfl
          simp only [Array.toArray_toList] at hr'
          simp only [Instr.build, Sem.run_bind, hzr, Result.andThen_ok, run_underlying hu, hm, hr', Sem.run_pure]
        · cases h
    · rename_i k e hu
      split at h
      · cases h
      · rename_i n hn
        split at h
        · rename_i cs hf
          cases h
          obtain ⟨r', hr', hrel⟩ := fill_fillA (placeV := fun i => some (i * n, n)) (by intro i x hx; exact hx) ps qs z.cells zv.cells.toList cs hf hq hzrel.cells
          refine ⟨.agg r'.toArray, ?_, by simp only [Rel]; exact ⟨r', rfl, hrel⟩⟩
          simp only [Array.toArray_toList] at hr'
          simp only [Instr.build, Sem.run_bind, hzr, Result.andThen_ok, run_underlying hu, run_sizeA hn, hr', Sem.run_pure]
        · cases h
    · cases h
/- ### slices, indexes, fields -/

end
end Go.Sy
