/- Operations that touch no memory: the model carries them out as the abstract machine says. -/
import Derived.Test.YtekedhfmdpbplaaDenB
import Derived.Great.FillDense
import Derived.Laws.Panics
import Derived.Laws.StructEq
import Derived.Laws.Cover3
set_option linter.unusedSimpArgs false
set_option linter.unusedVariables false
namespace Go.Den
open Go

theorem run_underlying' {P : Program} {t : TypeId} {d : TypeDesc} (h : P.underlying t = some d) (w : World) : (underlying t).run P w = .ok d w := run_underlying h w
theorem run_sizeA {P : Program} {t : TypeId} {n : Nat} (h : sizeA P t = some n) (w : World) : (sizeOf t).run P w = .ok n w := by
  unfold sizeA at h
  split at h
  · rename_i i hi; cases h; simp [sizeOf, typeInfo, hi]
  · cases h
theorem run_bytesA {P : Program} {t : TypeId} {n : Nat} (h : bytesA P t = some n) : ∃ i, P.info? t = some i ∧ i.bytes = n := by
  unfold bytesA at h
  split at h
  · rename_i i hi; cases h; exact ⟨i, hi, rfl⟩
  · cases h
theorem run_zeroA {P : Program} {t : TypeId} {z : AV} (h : zeroA P t = some z) (ρ : Rho) : ∃ v, (∀ w, (zeroValue t).run P w = .ok v w) ∧ Rel ρ z v := by
  unfold zeroA at h
  split at h
  · rename_i i hi
    split at h
    · rename_i u hu
      exact ⟨u, fun w => by simp [zeroValue, typeInfo, hi, hu], rel_ofVal _ _ h⟩
    · cases h
  · cases h
theorem run_isAggA {P : Program} {t : TypeId} {b : Bool} (h : isAggA P t = some b) (w : World) : (isAgg t).run P w = .ok b w := by
  unfold isAggA at h
  split at h <;> rename_i hu
  · cases h; simp [isAgg, run_underlying hu]
  · cases h; simp [isAgg, run_underlying hu]
  · rename_i d hn1 hn2 
    cases h
    rename_i d
    cases d <;> first | (simp [isAgg, run_underlying hu]; done) | (exfalso; first | exact hn1 _ rfl | exact hn2 _ _ rfl)
  · cases h
theorem readL_some {cs : List AV} {off n : Nat} {l : List AV} (h : readL cs off n = some l) : off + n ≤ cs.length ∧ l = (cs.drop off).take n := by
  unfold readL at h
  split at h
  · rename_i hb; cases h; exact ⟨Nat.le_of_ble_eq_true hb, rfl⟩
  · cases h
theorem readL_length {cs : List AV} {off n : Nat} {l : List AV} (h : readL cs off n = some l) : l.length = n := by
  obtain ⟨h1, rfl⟩ := readL_some h
  simp; omega

theorem run_part {P : Program} {t : TypeId} {ρ : Rho} {cs : List AV} {vs : List Value} {off : Nat} {a : AV} (h : partA P t cs off = some a) (hr : Rels ρ cs vs) (w : World) :
    ∃ v, (part t vs.toArray off).run P w = .ok v w ∧ Rel ρ a v := by
  unfold partA at h
  cases hg : isAggA P t with
  | none => rw [hg] at h; cases h
  | some b =>
    rw [hg] at h
    cases b with
    | true =>
      simp only at h
      cases hs : sizeA P t with
      | none => rw [hs] at h; cases h
      | some n =>
        rw [hs] at h
        simp only at h
        cases hl : readL cs off n with
        | none => rw [hl] at h; cases h
        | some l =>
          rw [hl] at h
          cases h
          obtain ⟨hle, rfl⟩ := readL_some hl
          refine ⟨.agg (vs.toArray.extract off (off + n)), by simp [part, run_isAggA hg, run_sizeA hs], ?_⟩
          simp only [Rel]
          refine ⟨(vs.drop off).take n, ?_, (hr.drop off).take n⟩
          simp [List.take_drop]
    | false =>
      simp only at h
      obtain ⟨v, hv, hrel⟩ := hr.get off a h
      exact ⟨v, by simp [part, run_isAggA hg, hv], hrel⟩

/- ### texts -/
theorem eqBytes_eq : ∀ (x y : List UInt8), eqBytes x y = (x == y)
  | [], [] => rfl
  | [], _ :: _ => rfl
  | _ :: _, [] => rfl
  | a :: x, b :: y => by
    simp only [eqBytes, eqBytes_eq x y, List.cons_beq_cons]
    congr 1
    rw [Bool.eq_iff_iff]
    constructor
    · intro h; have := Nat.eq_of_beq_eq_true h; simp [UInt8.toNat_inj.1 this]
    · intro h; simp at h; subst h; simp
theorem ltBytes_eq : ∀ (x y : List UInt8), ltBytes x y = Op.bytesLess x y
  | [], [] => rfl
  | [], _ :: _ => rfl
  | _ :: _, [] => rfl
  | a :: x, b :: y => by
    simp only [ltBytes, Op.bytesLess, ltBytes_eq x y]
    have h1 : Nat.blt a.toNat b.toNat = decide (a < b) := by
      rw [Bool.eq_iff_iff]; simp [Nat.blt_eq, UInt8.lt_iff_toNat_lt]
    have h2 : Nat.beq a.toNat b.toNat = (a == b) := by
      rw [Bool.eq_iff_iff]
      constructor
      · intro h; have := Nat.eq_of_beq_eq_true h; simp [UInt8.toNat_inj.1 this]
      · intro h; simp at h; subst h; simp
    rw [h1, h2]
theorem toList_mk (l : List UInt8) : (ByteArray.mk l.toArray).toList = l := by rw [ByteArray.toList_eq]

/- ### numbers -/
theorem run_intOp {P : Program} {op : BinOp} {k : IntKind} {x y : Int} {a : AV} (h : intOp op k x y = some a) (t : TypeId) (w : World) (ρ : Rho) :
    ∃ v, (binOp op t (.int k x) (.int k y)).run P w = .ok v w ∧ Rel ρ a v := by
  cases op <;> simp only [intOp] at h
  case quo =>
    split at h
    · cases h
    · rename_i hy
      simp at hy
      cases h
      exact ⟨.int k (k.wrap (x.tdiv y)), by simp [binOp, Op.intDiv, hy], by simp [Rel]⟩
  case rem =>
    split at h
    · cases h
    · rename_i hy
      simp at hy
      cases h
      exact ⟨.int k (x.tmod y), by simp [binOp, Op.intDiv, hy], by simp [Rel]⟩
  case shl => cases h
  case shr => cases h
  all_goals
    cases h
    first
      | exact ⟨_, by simp [binOp, Op.intArith]; rfl, by simp [Rel]⟩
      | exact ⟨_, by simp [binOp, Op.intBits]; rfl, by simp [Rel]⟩
      | exact ⟨_, by simp [binOp, Op.intCmp]; rfl, by simp [Rel]⟩
theorem run_shiftOp {P : Program} {op : BinOp} {k k' : IntKind} {x y : Int} {a : AV} (ho : op = .shl ∨ op = .shr) (h : shiftOp op k x y = some a) (t : TypeId) (w : World) (ρ : Rho) :
    ∃ v, (binOp op t (.int k x) (.int k' y)).run P w = .ok v w ∧ Rel ρ a v := by
  unfold shiftOp at h
  split at h
  · cases h
  · rename_i hy
    simp at hy
    have hy' : ¬ y < 0 := by omega
    rcases ho with rfl | rfl <;> simp only [Option.some.injEq] at h <;> subst h <;> exact ⟨_, by simp [binOp, Op.shift, hy']; rfl, by simp [Rel]⟩
theorem run_strOp {P : Program} {op : BinOp} {x y : List UInt8} {a : AV} (h : strOp op x y = some a) (t : TypeId) (w : World) (ρ : Rho) :
    ∃ v, (binOp op t (.string ⟨x.toArray⟩) (.string ⟨y.toArray⟩)).run P w = .ok v w ∧ Rel ρ a v := by
  cases op <;> simp only [strOp] at h
  case add =>
    split at h
    · rename_i hb
      cases h
      have hle := Nat.le_of_ble_eq_true hb
      refine ⟨.string (⟨x.toArray⟩ ++ ⟨y.toArray⟩), ?_, ?_⟩
      · have hs : ¬ (((ByteArray.mk x.toArray).size + (ByteArray.mk y.toArray).size : Nat) : Int) > IntKind.i64.max := by
          have e1 : (ByteArray.mk x.toArray).size = x.length := by simp [ByteArray.size]
          have e2 : (ByteArray.mk y.toArray).size = y.length := by simp [ByteArray.size]
          rw [e1, e2]
          have e3 : IntKind.i64.max = 9223372036854775807 := by decide
          rw [e3]
          omega
        simp only [binOp, Op.stringOp]
        rw [Sem.run_ite, if_neg hs]
        rfl
      · simp only [Rel, Value.string.injEq]
        apply ByteArray.ext
        simp [ByteArray.data_append]
    · cases h
  case eql => cases h; exact ⟨_, rfl, by simp [Rel, eqBytes_eq, toList_mk]⟩
  case neq => cases h; exact ⟨_, rfl, by simp [Rel, eqBytes_eq, toList_mk]⟩
  case lss => cases h; exact ⟨_, rfl, by simp [Rel, ltBytes_eq, toList_mk]⟩
  case leq => cases h; exact ⟨_, rfl, by simp [Rel, eqBytes_eq, ltBytes_eq, toList_mk]⟩
  case gtr => cases h; exact ⟨_, rfl, by simp [Rel, eqBytes_eq, ltBytes_eq, toList_mk]⟩
  case geq => cases h; exact ⟨_, rfl, by simp [Rel, ltBytes_eq, toList_mk]⟩
  all_goals cases h

/- ### equality -/
theorem Rel.str_inv {ρ : Rho} {s : List UInt8} {v : Value} (h : Rel ρ (.str s) v) : v = .string ⟨s.toArray⟩ := by simpa [Rel] using h

theorem fieldsOf_eq {P : Program} {t : TypeId} {fs : Array Field} (h : P.underlying t = some (.struct fs)) : P.fieldsOf t = fs := by simp [Program.fieldsOf, h]

section
variable {P : Program} (w : World) (D : Nat) (t : TypeId)
theorem eqIn_ptr_nil {e : TypeId} (h : P.underlying t = some (.pointer e)) (b : Option Addr) : (Op.equalIn (D + 1) t (.pointer none) (.pointer b)).run P w = .ok b.isNone w := by
  simp [Op.equalIn, run_underlying h]
theorem eqIn_ptr_some {e : TypeId} (h : P.underlying t = some (.pointer e)) (b : Addr) : (Op.equalIn (D + 1) t (.pointer (some b)) (.pointer none)).run P w = .ok false w := by
  simp [Op.equalIn, run_underlying h]
theorem eqIn_sl_nil {e : TypeId} (h : P.underlying t = some (.slice e)) (n c : Nat) (b : Option Addr) (n' c' : Nat) : (Op.equalIn (D + 1) t (.slice none n c) (.slice b n' c')).run P w = .ok b.isNone w := by
  simp [Op.equalIn, run_underlying h]
theorem eqIn_sl_some {e : TypeId} (h : P.underlying t = some (.slice e)) (n c : Nat) (b : Addr) (n' c' : Nat) : (Op.equalIn (D + 1) t (.slice (some b) n c) (.slice none n' c')).run P w = .ok false w := by
  simp [Op.equalIn, run_underlying h]
theorem eqIn_fn_nil {p r : Array TypeId} {v : Bool} (h : P.underlying t = some (.func p r v)) : (Op.equalIn (D + 1) t .nilFunc .nilFunc).run P w = .ok true w := by
  simp [Op.equalIn, run_underlying h]
theorem eqIn_fn_some {p r : Array TypeId} {v : Bool} (h : P.underlying t = some (.func p r v)) (f : Fn) (a b : Array Value) : (Op.equalIn (D + 1) t (.func f a b) .nilFunc).run P w = .ok false w := by
  simp [Op.equalIn, run_underlying h]
theorem eqIn_nil_fn {p r : Array TypeId} {v : Bool} (h : P.underlying t = some (.func p r v)) (f : Fn) (a b : Array Value) : (Op.equalIn (D + 1) t .nilFunc (.func f a b)).run P w = .ok false w := by
  simp [Op.equalIn, run_underlying h]
end

mutual
theorem run_eqA {P : Program} {ρ : Rho} : ∀ (d D : Nat) (t : TypeId) (x y : AV) (r : Bool) (u v : Value) (w : World), d ≤ D → eqA P d t x y = some r → Rel ρ x u → Rel ρ y v →
    (Op.equalIn D t u v).run P w = .ok r w
  | 0, _, _, _, _, _, _, _, _, _, h, _, _ => by simp [eqA] at h
  | d + 1, 0, _, _, _, _, _, _, _, hd, _, _, _ => by omega
  | d + 1, D + 1, t, x, y, r, u, v, w, hd, h, hu, hv => by
    simp only [eqA] at h
    split at h
    · rename_i ht
      split at h
      · cases h; simp only [Rel] at hu hv; subst hu; subst hv; exact run_equalIn_bool' w D t _ _ ht
      · cases h
    · rename_i k0 ht
      split at h
      · rename_i k a k' b
        split at h
        · rename_i hk
          have hk' : k = k' := of_decide_eq_true hk
          cases h; simp only [Rel] at hu hv; subst hu; subst hv; subst hk'; exact run_equalIn_int w D t k k0 _ _ ht
        · cases h
      · cases h
    · rename_i ht
      split at h
      · cases h; have e1 := hu.str_inv; have e2 := hv.str_inv; subst e1; subst e2
        rw [run_equalIn_string w D t _ _ ht, toList_mk, toList_mk, eqBytes_eq]
      · cases h
    · rename_i e0 ht
      split at h
      · rename_i b
        cases h
        simp only [Rel] at hu; subst hu
        rcases b with _ | ⟨b, off⟩ <;> simp only [Rel] at hv
        · subst hv; exact eqIn_ptr_nil w D t ht _
        · obtain ⟨B, o, q, _, rfl⟩ := hv; exact eqIn_ptr_nil w D t ht _
      · rename_i a
        obtain ⟨b, off⟩ := a
        cases h
        simp only [Rel] at hu hv
        obtain ⟨B, o, q, _, rfl⟩ := hu; subst hv; exact eqIn_ptr_some w D t ht _
      · cases h
    · rename_i e0 ht
      split at h
      · rename_i b n c
        cases h
        simp only [Rel] at hu
        obtain ⟨_, _, rfl⟩ := hu
        rcases b with _ | ⟨b, off⟩
        · simp only [Rel] at hv; obtain ⟨_, _, rfl⟩ := hv; exact eqIn_sl_nil w D t ht _ _ _ _ _
        · cases c <;> simp only [Rel] at hv
          · obtain ⟨B, o, q, _, _, rfl⟩ := hv; exact eqIn_sl_nil w D t ht _ _ _ _ _
          · obtain ⟨B, o, q, cap, _, _, _, _, rfl | ⟨_, x, rfl⟩⟩ := hv <;> exact eqIn_sl_nil w D t ht _ _ _ _ _
      · rename_i a n c n' c'
        obtain ⟨b, off⟩ := a
        cases h
        simp only [Rel] at hv
        obtain ⟨_, _, rfl⟩ := hv
        cases c <;> simp only [Rel] at hu
        · obtain ⟨B, o, q, _, _, rfl⟩ := hu; exact eqIn_sl_some w D t ht _ _ _ _ _
        · obtain ⟨B, o, q, cap, _, _, _, _, rfl | ⟨_, x, rfl⟩⟩ := hu <;> exact eqIn_sl_some w D t ht _ _ _ _ _
      · cases h
    · rename_i p0 r0 v0 ht
      split at h
      · cases h; simp only [Rel] at hu hv; subst hu; subst hv; exact eqIn_fn_nil w D t ht
      · cases h; simp only [Rel] at hu hv; subst hu; obtain ⟨_, _, rfl, _⟩ := hv; exact eqIn_nil_fn w D t ht _ _ _
      · cases h; simp only [Rel] at hu hv; subst hv; obtain ⟨_, _, rfl, _⟩ := hu; exact eqIn_fn_some w D t ht _ _ _
      · cases h
    · rename_i fs ht
      split at h
      · rename_i xs ys
        split at h
        · cases h
        · rename_i hp
          simp only [Rel] at hu hv
          obtain ⟨l, rfl, hl⟩ := hu
          obtain ⟨m, rfl, hm⟩ := hv
          rw [run_equalIn_struct w D t _ _ (by rw [fieldsOf_eq ht]; exact ht) hp, fieldsOf_eq ht]
          exact run_eqFieldsA d D fs.toList xs ys r l m w (by omega) h hl hm
      · cases h
    · rename_i len e ht
      split at h
      · rename_i xs ys
        split at h
        · rename_i n hn
          simp only [Rel] at hu hv
          obtain ⟨l, rfl, hl⟩ := hu
          obtain ⟨m, rfl, hm⟩ := hv
          have hi : ∃ i, P.info? e = some i ∧ P.cellsOf e = n := by
            unfold sizeA at hn
            split at hn
            · rename_i i hi; cases hn; exact ⟨i, hi, by simp [Program.cellsOf, hi]⟩
            · cases hn
          obtain ⟨i, hi, hc⟩ := hi
          rw [run_equalIn_array w D _ _ ht hi, hc, List.range_eq_range']
          exact run_eqElemsA d D e n xs ys len 0 r l m w (by omega) h hl hm
        · cases h
      · cases h
    · cases h
theorem run_eqFieldsA {P : Program} {ρ : Rho} : ∀ (d D : Nat) (fs : List Field) (xs ys : List AV) (r : Bool) (us vs : List Value) (w : World), d ≤ D → eqFieldsA P d fs xs ys = some r → Rels ρ xs us → Rels ρ ys vs →
    (Op.eqFields D us.toArray vs.toArray fs).run P w = .ok r w
  | 0, _, _, _, _, _, _, _, _, _, h, _, _ => by simp [eqFieldsA] at h
  | d + 1, 0, _, _, _, _, _, _, _, hd, _, _, _ => by omega
  | d + 1, D + 1, [], xs, ys, r, us, vs, w, hd, h, hx, hy => by
    simp only [eqFieldsA] at h; cases h; simp [Op.eqFields]
  | d + 1, D + 1, f :: fs, xs, ys, r, us, vs, w, hd, h, hx, hy => by
    simp only [eqFieldsA] at h
    split at h
    · rename_i hn
      have hn' : f.name = "_" := by simpa using hn
      simp only [Op.eqFields, hn', ne_eq, not_true_eq_false, if_false]
      exact run_eqFieldsA d (D + 1) fs xs ys r us vs w (by omega) h hx hy
    · rename_i hn
      have hn' : ¬ f.name = "_" := by simpa using hn
      split at h
      · cases h
      · rename_i a ha
        split at h
        · cases h
        · rename_i b hb
          obtain ⟨u, hu, ru⟩ := run_part ha hx w
          obtain ⟨v, hv, rv⟩ := run_part hb hy w
          split at h
          · cases h
          · rename_i he
            cases h
            have := run_eqA d (D + 1) f.type a b false u v w (by omega) he ru rv
            simp [Op.eqFields, hn', hu, hv, this]
          · rename_i he
            have := run_eqA d (D + 1) f.type a b true u v w (by omega) he ru rv
            simp only [Op.eqFields, hn', ne_eq, not_false_eq_true, if_true, Sem.run_bind, hu, hv, this, Result.andThen_ok]
            simpa using run_eqFieldsA d (D + 1) fs xs ys r us vs w (by omega) h hx hy
theorem run_eqElemsA {P : Program} {ρ : Rho} : ∀ (d D : Nat) (e : TypeId) (n : Nat) (xs ys : List AV) (k i : Nat) (r : Bool) (us vs : List Value) (w : World), d ≤ D → eqElemsA P d e n xs ys k i = some r → Rels ρ xs us → Rels ρ ys vs →
    (Op.eqItems D e n us.toArray vs.toArray (List.range' i k)).run P w = .ok r w
  | 0, _, _, _, _, _, _, _, _, _, _, _, _, h, _, _ => by simp [eqElemsA] at h
  | d + 1, 0, _, _, _, _, _, _, _, _, _, _, hd, _, _, _ => by omega
  | d + 1, D + 1, e, n, xs, ys, 0, i, r, us, vs, w, hd, h, hx, hy => by
    simp only [eqElemsA] at h; cases h; simp [Op.eqItems]
  | d + 1, D + 1, e, n, xs, ys, k + 1, i, r, us, vs, w, hd, h, hx, hy => by
    simp only [eqElemsA] at h
    split at h
    · cases h
    · rename_i a ha
      split at h
      · cases h
      · rename_i b hb
        obtain ⟨u, hu, ru⟩ := run_part ha hx w
        obtain ⟨v, hv, rv⟩ := run_part hb hy w
        split at h
        · cases h
        · rename_i he
          cases h
          have := run_eqA d (D + 1) e a b false u v w (by omega) he ru rv
          simp [List.range'_succ, Op.eqItems, hu, hv, this]
        · rename_i he
          have := run_eqA d (D + 1) e a b true u v w (by omega) he ru rv
          simp only [List.range'_succ, Op.eqItems, Sem.run_bind, hu, hv, this, Result.andThen_ok]
          simpa using run_eqElemsA d (D + 1) e n xs ys k (i + 1) r us vs w (by omega) h hx hy
end

end Go.Den
