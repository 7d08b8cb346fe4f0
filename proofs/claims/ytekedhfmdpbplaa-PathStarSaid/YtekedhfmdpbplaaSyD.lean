/- The relation between the symbolic machine's values and the model's: first laws. -/
import Derived.Test.YtekedhfmdpbplaaSyA
import Derived.Tactics
import Derived.Below
import Derived.ChangeKeysEq
import Derived.Laws.BytesString
import Derived.Laws.AppendOwn
import Derived.Great.FillDense
import Derived.Laws.Panics
import Derived.Laws.StructEq
import Derived.Laws.Cover3
set_option linter.unusedVariables false
set_option linter.unusedSimpArgs false
namespace Go.Sy
open Go

/- ### Shapes -/
mutual
theorem Sh.beq_eq : ∀ (a b : Sh), a.beq b = true → a = b
  | .bool, b, h => by cases b <;> simp [Sh.beq] at h; rfl
  | .int k, b, h => by cases b <;> simp [Sh.beq] at h; rw [h]
  | .str, b, h => by cases b <;> simp [Sh.beq] at h; rfl
  | .slice e, b, h => by cases b <;> simp [Sh.beq] at h; rw [Sh.beq_eq e _ h]
  | .struct fs, b, h => by cases b <;> simp [Sh.beq] at h; rw [Sh.beqs_eq fs _ h]
theorem Sh.beqs_eq : ∀ (a b : List Sh), Sh.beqs a b = true → a = b
  | [], b, h => by cases b <;> simp [Sh.beqs] at h; rfl
  | x :: a, b, h => by
    cases b with
    | nil => simp [Sh.beqs] at h
    | cons y b =>
      simp only [Sh.beqs, Bool.and_eq_true] at h
      rw [Sh.beq_eq x y h.1, Sh.beqs_eq a b h.2]
end

/- ### What stands for what -/
/-- Where the blocks are: block, offset, room; what is in memory that nobody writes any more. -/
structure Rho where
  at_ : Nat → Option (Nat × Nat × Nat)
  fz : Nat → Nat → Option Value
instance : CoeFun Rho (fun _ => Nat → Option (Nat × Nat × Nat)) := ⟨Rho.at_⟩
def Rho.le (ρ ρ' : Rho) : Prop := (∀ i x, ρ i = some x → ρ' i = some x) ∧ ∀ B o v, ρ.fz B o = some v → ρ'.fz B o = some v
theorem Rho.le.rfl {ρ : Rho} : ρ.le ρ := ⟨fun _ _ e => e, fun _ _ _ e => e⟩
theorem Rho.le.trans {ρ ρ' ρ'' : Rho} (h : ρ.le ρ') (k : ρ'.le ρ'') : ρ.le ρ'' := ⟨fun i x e => k.1 i x (h.1 i x e), fun B o v e => k.2 B o v (h.2 B o v e)⟩
def litOk : Value → Bool
  | .nilIface | .map none => true
  | _ => false

/-- A slice of memory that nobody writes: its elements, one by one. -/
def FzR (F : Nat → Nat → Option Value) (sz : Nat) (R : D → List Value → Prop) (nn : Bool) (l : List D) (v : Value) : Prop :=
  (nn = false ∧ l = [] ∧ v = .slice none 0 0) ∨ (∃ B o cap, v = .slice (some ⟨B, o, none⟩) l.length cap ∧ l.length ≤ cap ∧
    ∀ (i : Nat) (d : D), l[i]? = some d → ∃ vs, R d vs ∧ ∀ (j : Nat) (u : Value), vs[j]? = some u → F B (o + i * sz + j) = some u) ∨
  (l = [] ∧ ∃ a c, v = .slice (some a) 0 c)
mutual
/-- Data of a shape, and its cells. -/
def RelSh (F : Nat → Nat → Option Value) : Sh → D → List Value → Prop
  | .bool, d, vs => vs = [.bool d.asBool]
  | .int k, d, vs => vs = [.int k d.asInt]
  | .str, d, vs => vs = [.string ⟨d.asStr.toArray⟩]
  | .slice e, d, vs => ∃ v, vs = [v] ∧ FzR F e.size (fun d vs => RelSh F e d vs) false d.els v
  | .struct fs, d, vs => RelShs F fs d 0 vs
def RelShs (F : Nat → Nat → Option Value) : List Sh → D → Nat → List Value → Prop
  | [], _, _, vs => vs = []
  | f :: fs, d, i, vs => ∃ a b, vs = a ++ b ∧ RelSh F f (d.fld i) a ∧ RelShs F fs d (i + 1) b
end
mutual
theorem RelSh.length {F : Nat → Nat → Option Value} : ∀ {sh : Sh} {d : D} {vs : List Value}, RelSh F sh d vs → vs.length = sh.size
  | .bool, d, vs, h => by simp only [RelSh] at h; simp [h, Sh.size]
  | .int k, d, vs, h => by simp only [RelSh] at h; simp [h, Sh.size]
  | .str, d, vs, h => by simp only [RelSh] at h; simp [h, Sh.size]
  | .slice e, d, vs, h => by simp only [RelSh] at h; obtain ⟨v, rfl, _⟩ := h; simp [Sh.size]
  | .struct fs, d, vs, h => by simp only [RelSh] at h; simp only [Sh.size]; exact RelShs.length h
theorem RelShs.length {F : Nat → Nat → Option Value} : ∀ {fs : List Sh} {d : D} {i : Nat} {vs : List Value}, RelShs F fs d i vs → vs.length = Sh.sizes fs
  | [], d, i, vs, h => by simp only [RelShs] at h; simp [h, Sh.sizes]
  | f :: fs, d, i, vs, h => by
    simp only [RelShs] at h
    obtain ⟨a, b, rfl, h1, h2⟩ := h
    simp only [List.length_append, Sh.sizes, RelSh.length h1, RelShs.length h2]
end
theorem FzR.mono {F F' : Nat → Nat → Option Value} {sz : Nat} {R R' : D → List Value → Prop} {nn : Bool} {l : List D} {v : Value} (hF : ∀ B o v, F B o = some v → F' B o = some v) (hR : ∀ d vs, R d vs → R' d vs) (h : FzR F sz R nn l v) : FzR F' sz R' nn l v := by
  rcases h with h | ⟨B, o, cap, h1, h2, h3⟩ | h
  · exact .inl h
  · refine .inr (.inl ⟨B, o, cap, h1, h2, fun i d hd => ?_⟩)
    obtain ⟨vs, k1, k2⟩ := h3 i d hd
    exact ⟨vs, hR d vs k1, fun j u hu => hF _ _ _ (k2 j u hu)⟩
  · exact .inr (.inr h)
mutual
theorem RelSh.mono {F F' : Nat → Nat → Option Value} (hF : ∀ B o v, F B o = some v → F' B o = some v) : ∀ (sh : Sh) (d : D) (vs : List Value), RelSh F sh d vs → RelSh F' sh d vs
  | .bool, d, vs, h => by simpa only [RelSh] using h
  | .int k, d, vs, h => by simpa only [RelSh] using h
  | .str, d, vs, h => by simpa only [RelSh] using h
  | .slice e, d, vs, h => by
    simp only [RelSh] at h ⊢
    obtain ⟨v, h1, h2⟩ := h
    exact ⟨v, h1, h2.mono hF (fun d vs => RelSh.mono hF e d vs)⟩
  | .struct fs, d, vs, h => by simp only [RelSh] at h ⊢; exact RelShs.mono hF fs d 0 vs h
theorem RelShs.mono {F F' : Nat → Nat → Option Value} (hF : ∀ B o v, F B o = some v → F' B o = some v) : ∀ (fs : List Sh) (d : D) (i : Nat) (vs : List Value), RelShs F fs d i vs → RelShs F' fs d i vs
  | [], d, i, vs, h => by simpa only [RelShs] using h
  | f :: fs, d, i, vs, h => by
    simp only [RelShs] at h ⊢
    obtain ⟨a, b, h1, h2, h3⟩ := h
    exact ⟨a, b, h1, RelSh.mono hF f _ _ h2, RelShs.mono hF fs _ _ _ h3⟩
end

def Cap.exact : Cap → Nat → Prop
  | .known k, c => c = k
  | _, _ => True
mutual
def Rel (ρ : Rho) : AV → Value → Prop
  | .any, _ => False
  | .bool b, v => v = .bool b
  | .int k n, v => v = .int k n
  | .str s, v => v = .string ⟨s.toArray⟩
  | .ptr none, v => v = .pointer none
  | .ptr (some (b, off)), v => ∃ B o r, ρ b = some (B, o, r) ∧ v = .pointer (some ⟨B, o + off, none⟩)
  | .nilSl, v => v = .slice none 0 0
  | .sl b off len cap, v => ∃ B o r, ρ b = some (B, o, r) ∧ len ≤ cap ∧ v = .slice (some ⟨B, o + off, none⟩) len cap
  | .fn f first caps, v => ∃ x y, v = .func f x.toArray y.toArray ∧ Rels ρ first x ∧ Rels ρ caps y
  | .nilFn, v => v = .nilFunc
  | .lit u, v => v = u ∧ litOk u = true
  | .agg cs, v => ∃ l, v = .agg l.toArray ∧ Rels ρ cs l
  | .tup vs, v => ∃ l, v = .tuple l.toArray ∧ Rels ρ vs l
  | .fz nn e l, v => FzR ρ.fz e.size (RelSh ρ.fz e) nn l v
  | .fref sh d, v => ∃ B o vs, v = .pointer (some ⟨B, o, none⟩) ∧ RelSh ρ.fz sh d vs ∧ ∀ (j : Nat) (u : Value), vs[j]? = some u → ρ.fz B (o + j) = some u
  | .tsl nn e b off len cap, v => ∃ B o r, ρ b = some (B, o, r) ∧ ((nn = false ∧ len = 0 ∧ cap.top len = 0 ∧ r = 0 ∧ v = .slice none 0 0) ∨
      ∃ c, len ≤ cap.top len ∧ cap.top len ≤ c ∧ cap.exact c ∧ off * e.size + c * e.size ≤ r ∧
        (v = .slice (some ⟨B, o + off * e.size, none⟩) len c ∨ (c = 0 ∧ ∃ x, v = .slice (some ⟨B, x, none⟩) 0 0)))
  | .eptr e b i fo, v => ∃ B o r, ρ b = some (B, o, r) ∧ v = .pointer (some ⟨B, o + (i * e.size + fo), none⟩)
def Rels (ρ : Rho) : List AV → List Value → Prop
  | [], l => l = []
  | a :: as, l => ∃ v vs, l = v :: vs ∧ Rel ρ a v ∧ Rels ρ as vs
end

theorem Rels.nil {ρ : Rho} : Rels ρ [] [] := by simp [Rels]
theorem Rels.cons {ρ : Rho} {a : AV} {v : Value} {as : List AV} {vs : List Value} (h : Rel ρ a v) (hs : Rels ρ as vs) : Rels ρ (a :: as) (v :: vs) := by
  simp only [Rels]; exact ⟨v, vs, rfl, h, hs⟩
theorem Rels.length {ρ : Rho} : ∀ {as : List AV} {vs : List Value}, Rels ρ as vs → vs.length = as.length
  | [], vs, h => by simp [Rels] at h; simp [h]
  | a :: as, vs, h => by
    simp only [Rels] at h
    obtain ⟨v, vs', rfl, _, h'⟩ := h
    simp [Rels.length h']
theorem Rels.get {ρ : Rho} : ∀ {as : List AV} {vs : List Value}, Rels ρ as vs → ∀ (i : Nat) (a : AV), as[i]? = some a → ∃ v, vs[i]? = some v ∧ Rel ρ a v
  | [], vs, h, i, a, e => by simp at e
  | x :: as, vs, h, i, a, e => by
    simp only [Rels] at h
    obtain ⟨v, vs', rfl, h1, h'⟩ := h
    cases i with
    | zero => simp at e; subst e; exact ⟨v, by simp, h1⟩
    | succ i => simp at e; simpa using Rels.get h' i a e
theorem Rels.of_get {ρ : Rho} : ∀ {as : List AV} {vs : List Value}, vs.length = as.length → (∀ (i : Nat) (a : AV) (v : Value), as[i]? = some a → vs[i]? = some v → Rel ρ a v) → Rels ρ as vs
  | [], vs, hl, h => by simp at hl; subst hl; exact Rels.nil
  | x :: as, [], hl, h => by simp at hl
  | x :: as, v :: vs, hl, h => by
    refine Rels.cons (h 0 x v (by simp) (by simp)) (Rels.of_get (by simpa using hl) (fun i a u e1 e2 => h (i + 1) a u (by simpa using e1) (by simpa using e2)))
theorem Rels.append {ρ : Rho} {as bs : List AV} {vs us : List Value} (h : Rels ρ as vs) (k : Rels ρ bs us) : Rels ρ (as ++ bs) (vs ++ us) := by
  induction as generalizing vs with
  | nil => simp [Rels] at h; subst h; simpa using k
  | cons a as ih =>
    simp only [Rels] at h
    obtain ⟨v, vs', rfl, h1, h'⟩ := h
    exact Rels.cons h1 (ih h')
theorem Rels.take {ρ : Rho} {as : List AV} {vs : List Value} (h : Rels ρ as vs) (n : Nat) : Rels ρ (as.take n) (vs.take n) := by
  induction as generalizing vs n with
  | nil => simp [Rels] at h; subst h; simpa using Rels.nil
  | cons a as ih =>
    simp only [Rels] at h
    obtain ⟨v, vs', rfl, h1, h'⟩ := h
    cases n with
    | zero => simpa using Rels.nil
    | succ n => simpa using Rels.cons h1 (ih h' n)
theorem Rels.drop {ρ : Rho} {as : List AV} {vs : List Value} (h : Rels ρ as vs) (n : Nat) : Rels ρ (as.drop n) (vs.drop n) := by
  induction as generalizing vs n with
  | nil => simp [Rels] at h; subst h; simpa using Rels.nil
  | cons a as ih =>
    simp only [Rels] at h
    obtain ⟨v, vs', rfl, h1, h'⟩ := h
    cases n with
    | zero => simpa using Rels.cons h1 h'
    | succ n => simpa using ih h' n

mutual
theorem Rel.mono {ρ ρ' : Rho} (hle : ρ.le ρ') : ∀ (a : AV) (v : Value), Rel ρ a v → Rel ρ' a v
  | .any, _, h => by simp [Rel] at h
  | .bool _, _, h => by simpa [Rel] using h
  | .int _ _, _, h => by simpa [Rel] using h
  | .str _, _, h => by simpa [Rel] using h
  | .ptr none, _, h => by simpa [Rel] using h
  | .ptr (some (b, off)), _, h => by
    simp only [Rel] at h ⊢
    obtain ⟨B, o, r, h1, h2⟩ := h
    exact ⟨B, o, r, hle.1 _ _ h1, h2⟩
  | .nilSl, _, h => by simpa [Rel] using h
  | .sl b off len cap, _, h => by
    simp only [Rel] at h ⊢
    obtain ⟨B, o, r, h1, h2⟩ := h
    exact ⟨B, o, r, hle.1 _ _ h1, h2⟩
  | .fn f first caps, _, h => by
    simp only [Rel] at h ⊢
    obtain ⟨x, y, h1, h2, h3⟩ := h
    exact ⟨x, y, h1, Rels.mono hle _ _ h2, Rels.mono hle _ _ h3⟩
  | .nilFn, _, h => by simpa [Rel] using h
  | .lit _, _, h => by simpa [Rel] using h
  | .agg cs, _, h => by
    simp only [Rel] at h ⊢
    obtain ⟨l, h1, h2⟩ := h
    exact ⟨l, h1, Rels.mono hle _ _ h2⟩
  | .tup cs, _, h => by
    simp only [Rel] at h ⊢
    obtain ⟨l, h1, h2⟩ := h
    exact ⟨l, h1, Rels.mono hle _ _ h2⟩
  | .fz nn e l, _, h => by
    simp only [Rel] at h ⊢
    exact h.mono hle.2 (fun d vs => RelSh.mono hle.2 e d vs)
  | .fref sh d, _, h => by
    simp only [Rel] at h ⊢
    obtain ⟨B, o, vs, h1, h2, h3⟩ := h
    exact ⟨B, o, vs, h1, RelSh.mono hle.2 _ _ _ h2, fun j u hu => hle.2 _ _ _ (h3 j u hu)⟩
  | .tsl nn e b off len cap, _, h => by
    simp only [Rel] at h ⊢
    obtain ⟨B, o, r, h1, h2⟩ := h
    exact ⟨B, o, r, hle.1 _ _ h1, h2⟩
  | .eptr e b i fo, _, h => by
    simp only [Rel] at h ⊢
    obtain ⟨B, o, r, h1, h2⟩ := h
    exact ⟨B, o, r, hle.1 _ _ h1, h2⟩
theorem Rels.mono {ρ ρ' : Rho} (hle : ρ.le ρ') : ∀ (as : List AV) (vs : List Value), Rels ρ as vs → Rels ρ' as vs
  | [], _, h => by simpa [Rels] using h
  | a :: as, _, h => by
    simp only [Rels] at h ⊢
    obtain ⟨v, vs, h1, h2, h3⟩ := h
    exact ⟨v, vs, h1, Rel.mono hle _ _ h2, Rels.mono hle _ _ h3⟩
end

theorem rel_undef (ρ : Rho) : Rel ρ undefA undef := by simp [undefA, undef, Rel, Rels]

/- ### Forms -/
theorem FzR.form {F : Nat → Nat → Option Value} {sz : Nat} {R : D → List Value → Prop} {nn : Bool} {l : List D} {v : Value} (h : FzR F sz R nn l v) : ∃ p c, v = .slice p l.length c := by
  rcases h with ⟨_, rfl, rfl⟩ | ⟨B, o, cap, rfl, _⟩ | ⟨rfl, a, c, rfl⟩
  · exact ⟨_, _, rfl⟩
  · exact ⟨_, _, rfl⟩
  · exact ⟨_, _, rfl⟩
theorem Rel.tsl_form {ρ : Rho} {nn : Bool} {e : Sh} {b off len : Nat} {cap : Cap} {v : Value} (h : Rel ρ (.tsl nn e b off len cap) v) : ∃ p c, v = .slice p len c := by
  simp only [Rel] at h
  obtain ⟨B, o, r, h1, ⟨_, rfl, _, _, rfl⟩ | ⟨c, h2, h3, _, h4, rfl | ⟨rfl, x, rfl⟩⟩⟩ := h
  · exact ⟨_, _, rfl⟩
  · exact ⟨_, _, rfl⟩
  · obtain rfl : len = 0 := by omega
    exact ⟨_, _, rfl⟩
theorem Rel.bool_inv {ρ : Rho} {a : AV} {b : Bool} (h : Rel ρ a (.bool b)) : a = .bool b := by
  cases a with
  | bool => simp [Rel] at h; simp [h]
  | ptr p => rcases p with _ | ⟨_, _⟩ <;> simp [Rel] at h
  | lit u => simp only [Rel] at h; obtain ⟨rfl, h⟩ := h; simp [litOk] at h
  | fz => simp only [Rel] at h; obtain ⟨p, c, e⟩ := h.form; cases e
  | tsl => obtain ⟨p, c, e⟩ := h.tsl_form; cases e
  | fref => simp only [Rel] at h; obtain ⟨_, _, _, e, _⟩ := h; cases e
  | eptr => simp only [Rel] at h; obtain ⟨_, _, _, _, e⟩ := h; cases e
  | _ => simp [Rel] at h

mutual
theorem rel_ofVal {ρ : Rho} : ∀ (v : Value) (a : AV), ofVal v = some a → Rel ρ a v
  | .bool b, a, h => by simp [ofVal] at h; subst h; simp [Rel]
  | .int k n, a, h => by simp [ofVal] at h; subst h; simp [Rel]
  | .string s, a, h => by simp [ofVal] at h; subst h; simp [Rel]
  | .pointer none, a, h => by simp [ofVal] at h; subst h; simp [Rel]
  | .pointer (some _), a, h => by simp [ofVal] at h
  | .slice none 0 0, a, h => by simp [ofVal] at h; subst h; simp [Rel]
  | .slice none (n + 1) _, a, h => by simp [ofVal] at h
  | .slice none 0 (n + 1), a, h => by simp [ofVal] at h
  | .slice (some _) _ _, a, h => by simp [ofVal] at h
  | .nilFunc, a, h => by simp [ofVal] at h; subst h; simp [Rel]
  | .nilIface, a, h => by simp [ofVal] at h; subst h; simp [Rel, litOk]
  | .map none, a, h => by simp [ofVal] at h; subst h; simp [Rel, litOk]
  | .map (some _), a, h => by simp [ofVal] at h
  | .func (.func f) ⟨[]⟩ ⟨[]⟩, a, h => by simp [ofVal] at h; subst h; simp [Rel, Rels]
  | .func (.func f) ⟨_ :: _⟩ _, a, h => by simp [ofVal] at h
  | .func (.func f) ⟨[]⟩ ⟨_ :: _⟩, a, h => by simp [ofVal] at h
  | .func (.method _) _ _, a, h => by simp [ofVal] at h
  | .func (.methodOf _ _) _ _, a, h => by simp [ofVal] at h
  | .func (.via _ _ _ _) _ _, a, h => by simp [ofVal] at h
  | .func (.yield _) _ _, a, h => by simp [ofVal] at h
  | .agg ⟨cs⟩, a, h => by
    simp only [ofVal] at h
    split at h
    · rename_i l hl
      cases h
      simp only [Rel]
      exact ⟨cs, rfl, rels_ofVals cs l hl⟩
    · cases h
  | .tuple ⟨[]⟩, a, h => by simp [ofVal] at h; subst h; simp [Rel, Rels]
  | .tuple ⟨_ :: _⟩, a, h => by simp [ofVal] at h
  | .float _ _, a, h => by simp [ofVal] at h
  | .complex _ _ _, a, h => by simp [ofVal] at h
  | .chan _, a, h => by simp [ofVal] at h
  | .iface _ _, a, h => by simp [ofVal] at h
theorem rels_ofVals {ρ : Rho} : ∀ (vs : List Value) (as : List AV), ofVals vs = some as → Rels ρ as vs
  | [], as, h => by simp [ofVals] at h; subst h; simp [Rels]
  | v :: vs, as, h => by
    simp only [ofVals] at h
    split at h
    · cases h
    · rename_i a ha
      split at h
      · cases h
      · rename_i l hl
        cases h
        exact Rels.cons (rel_ofVal v a ha) (rels_ofVals vs l hl)
end

/-- A value that is no struct, array or tuple is one cell. -/
theorem Rel.oneCell {ρ : Rho} {a : AV} {v : Value} (h : Rel ρ a v) (hs : scalarV a = true) : v.oneCell' = true := by
  cases a with
  | any => simp [scalarV] at hs
  | agg => simp [scalarV] at hs
  | tup => simp [scalarV] at hs
  | ptr p =>
    rcases p with _ | ⟨_, _⟩ <;> simp only [Rel] at h
    · subst h; rfl
    · obtain ⟨B, o, r, _, rfl⟩ := h; rfl
  | sl => simp only [Rel] at h; obtain ⟨B, o, r, _, _, rfl⟩ := h; rfl
  | fz => simp only [Rel] at h; obtain ⟨p, c, rfl⟩ := h.form; rfl
  | tsl => obtain ⟨p, c, rfl⟩ := h.tsl_form; rfl
  | fref => simp only [Rel] at h; obtain ⟨_, _, _, rfl, _⟩ := h; rfl
  | eptr => simp only [Rel] at h; obtain ⟨_, _, _, _, rfl⟩ := h; rfl
  | fn =>
    simp only [Rel] at h
    obtain ⟨x, y, rfl, _⟩ := h
    rfl
  | lit u =>
    simp only [Rel] at h
    obtain ⟨rfl, h2⟩ := h
    cases v <;> simp [litOk] at h2 <;> rfl
  | _ => simp only [Rel] at h; subst h; rfl
theorem oneCell_cells {v : Value} (h : v.oneCell' = true) : v.cells = #[v] := by
  cases v <;> first | rfl | (simp [Value.oneCell'] at h)
theorem Rel.cells {ρ : Rho} {a : AV} {v : Value} (h : Rel ρ a v) : Rels ρ a.cells v.cells.toList := by
  cases hs : scalarV a with
  | true =>
    have h1 := oneCell_cells (h.oneCell hs)
    have h2 : a.cells = [a] := by cases a <;> first | rfl | (simp [scalarV] at hs)
    rw [h1, h2]
    exact Rels.cons h Rels.nil
  | false =>
    cases a with
    | agg cs =>
      simp only [Rel] at h
      obtain ⟨l, rfl, h2⟩ := h
      simpa [AV.cells, Value.cells] using h2
    | tup vs =>
      have h' := h
      simp only [Rel] at h
      obtain ⟨l, rfl, _⟩ := h
      exact Rels.cons h' Rels.nil
    | any => simp [Rel] at h
    | _ => simp [scalarV] at hs
theorem Rels.oneCell {ρ : Rho} : ∀ {as : List AV} {vs : List Value}, Rels ρ as vs → scalars as = true → ∀ v ∈ vs, v.oneCell' = true
  | [], vs, h, _, v, hv => by simp [Rels] at h; subst h; simp at hv
  | a :: as, vs, h, hs, v, hv => by
    simp only [Rels] at h
    obtain ⟨u, us, rfl, h1, h2⟩ := h
    simp only [scalars, Bool.and_eq_true] at hs
    rcases List.mem_cons.1 hv with rfl | hv
    · exact h1.oneCell hs.1
    · exact Rels.oneCell h2 hs.2 v hv

/- ### Data and its cells -/
mutual
theorem rels_expand {ρ : Rho} : ∀ (sh : Sh) (d : D) (vs : List Value), RelSh ρ.fz sh d vs ↔ Rels ρ (expand sh d) vs
  | .bool, d, vs => by
    simp only [RelSh, expand, Rels, Rel]
    constructor
    · rintro rfl; exact ⟨_, _, rfl, rfl, rfl⟩
    · rintro ⟨v, us, rfl, rfl, rfl⟩; rfl
  | .int k, d, vs => by
    simp only [RelSh, expand, Rels, Rel]
    constructor
    · rintro rfl; exact ⟨_, _, rfl, rfl, rfl⟩
    · rintro ⟨v, us, rfl, rfl, rfl⟩; rfl
  | .str, d, vs => by
    simp only [RelSh, expand, Rels, Rel]
    constructor
    · rintro rfl; exact ⟨_, _, rfl, rfl, rfl⟩
    · rintro ⟨v, us, rfl, rfl, rfl⟩; rfl
  | .slice e, d, vs => by
    simp only [RelSh, expand, Rels, Rel]
    constructor
    · rintro ⟨v, rfl, h⟩; exact ⟨_, _, rfl, h, rfl⟩
    · rintro ⟨v, us, rfl, h, rfl⟩; exact ⟨v, rfl, h⟩
  | .struct fs, d, vs => by
    simp only [RelSh, expand]
    exact rels_expands fs d 0 vs
theorem rels_expands {ρ : Rho} : ∀ (fs : List Sh) (d : D) (i : Nat) (vs : List Value), RelShs ρ.fz fs d i vs ↔ Rels ρ (expands fs d i) vs
  | [], d, i, vs => by simp only [RelShs, expands, Rels]
  | f :: fs, d, i, vs => by
    simp only [RelShs, expands]
    constructor
    · rintro ⟨a, b, rfl, h1, h2⟩
      exact Rels.append ((rels_expand f _ _).1 h1) ((rels_expands fs _ _ _).1 h2)
    · intro h
      have hl := h.length
      simp only [List.length_append] at hl
      refine ⟨vs.take (expand f (d.fld i)).length, vs.drop (expand f (d.fld i)).length, (List.take_append_drop _ _).symm, ?_, ?_⟩
      · refine (rels_expand f _ _).2 ?_
        have := h.take (expand f (d.fld i)).length
        simpa using this
      · refine (rels_expands fs _ _ _).2 ?_
        have := h.drop (expand f (d.fld i)).length
        simpa using this
end
mutual
theorem expand_length : ∀ (sh : Sh) (d : D), (expand sh d).length = sh.size
  | .bool, d => rfl
  | .int k, d => rfl
  | .str, d => rfl
  | .slice e, d => rfl
  | .struct fs, d => by simp only [expand, Sh.size]; exact expands_length fs d 0
theorem expands_length : ∀ (fs : List Sh) (d : D) (i : Nat), (expands fs d i).length = Sh.sizes fs
  | [], d, i => rfl
  | f :: fs, d, i => by simp only [expands, Sh.sizes, List.length_append, expand_length f, expands_length fs]
end
theorem flat_length (e : Sh) : ∀ (l : List D), (flat e l).length = l.length * e.size
  | [] => by simp [flat]
  | d :: l => by simp only [flat, List.length_append, expand_length, flat_length e l, List.length_cons, Nat.add_mul, Nat.one_mul]; omega
theorem flat_append (e : Sh) : ∀ (l m : List D), flat e (l ++ m) = flat e l ++ flat e m
  | [], m => rfl
  | d :: l, m => by simp only [List.cons_append, flat, flat_append e l m, List.append_assoc]
theorem flat_take (e : Sh) : ∀ (l : List D) (n : Nat), flat e (l.take n) = (flat e l).take (n * e.size)
  | [], n => by simp [flat]
  | d :: l, 0 => by simp [flat]
  | d :: l, n + 1 => by
    simp only [List.take_succ_cons, flat, flat_take e l n]
    rw [List.take_append, expand_length, show (n + 1) * e.size - e.size = n * e.size by rw [Nat.add_mul]; omega]
    rw [List.take_of_length_le (l := expand e d) (by rw [expand_length, Nat.add_mul]; omega)]
theorem flat_drop (e : Sh) : ∀ (l : List D) (n : Nat), flat e (l.drop n) = (flat e l).drop (n * e.size)
  | [], n => by simp [flat]
  | d :: l, 0 => by simp [flat]
  | d :: l, n + 1 => by
    simp only [List.drop_succ_cons, flat, flat_drop e l n]
    rw [List.drop_append, expand_length, show (n + 1) * e.size - e.size = n * e.size by rw [Nat.add_mul]; omega]
    rw [List.drop_of_length_le (l := expand e d) (by rw [expand_length, Nat.add_mul]; omega)]
    rfl
theorem flat_getD (e : Sh) (l : List D) (i : Nat) (h : i < l.length) : ((flat e l).drop (i * e.size)).take e.size = expand e (l.getD i .nul) := by
  rw [← flat_drop]
  have : l.drop i = l.getD i .nul :: l.drop (i + 1) := by
    rw [List.drop_eq_getElem_cons h]
    simp [List.getD, List.getElem?_eq_getElem h]
  rw [this]
  simp only [flat]
  rw [List.take_append_of_le_length (by rw [expand_length]; exact Nat.le_refl _), List.take_of_length_le (by rw [expand_length]; exact Nat.le_refl _)]
theorem flat_set (e : Sh) : ∀ (l : List D) (i : Nat) (d : D), i < l.length → flat e (l.set i d) = (flat e l).take (i * e.size) ++ (expand e d ++ (flat e l).drop ((i + 1) * e.size))
  | [], i, d, h => by simp at h
  | x :: l, 0, d, h => by
    simp only [List.set_cons_zero, flat, Nat.zero_mul, List.take_zero, List.nil_append, Nat.zero_add, Nat.one_mul]
    rw [List.drop_append, expand_length, Nat.sub_self, List.drop_of_length_le (by rw [expand_length]; exact Nat.le_refl _)]
    rfl
  | x :: l, i + 1, d, h => by
    simp only [List.set_cons_succ, flat, flat_set e l i d (by simpa using h)]
    rw [List.take_append, expand_length, show (i + 1) * e.size - e.size = i * e.size by rw [Nat.add_mul]; omega, List.take_of_length_le (l := expand e x) (by rw [expand_length, Nat.add_mul]; omega)]
    rw [List.drop_append, expand_length, show (i + 1 + 1) * e.size - e.size = (i + 1) * e.size by rw [Nat.add_mul (i + 1)]; omega, List.drop_of_length_le (l := expand e x) (by rw [expand_length, Nat.add_mul (i + 1), Nat.add_mul]; omega)]
    simp
mutual
theorem scalars_expand : ∀ (sh : Sh) (d : D), scalars (expand sh d) = true
  | .bool, d => rfl
  | .int k, d => rfl
  | .str, d => rfl
  | .slice e, d => rfl
  | .struct fs, d => by simp only [expand]; exact scalars_expands fs d 0
theorem scalars_expands : ∀ (fs : List Sh) (d : D) (i : Nat), scalars (expands fs d i) = true
  | [], d, i => rfl
  | f :: fs, d, i => by
    have app : ∀ (a b : List AV), scalars a = true → scalars b = true → scalars (a ++ b) = true := by
      intro a b ha hb
      induction a with
      | nil => exact hb
      | cons x a ih =>
        simp only [scalars, Bool.and_eq_true, List.cons_append] at ha ⊢
        exact ⟨ha.1, ih ha.2⟩
    exact app _ _ (scalars_expand f _) (scalars_expands fs _ _)
end
theorem scalars_append {a b : List AV} (ha : scalars a = true) (hb : scalars b = true) : scalars (a ++ b) = true := by
  induction a with
  | nil => exact hb
  | cons x a ih =>
    simp only [scalars, Bool.and_eq_true, List.cons_append] at ha ⊢
    exact ⟨ha.1, ih ha.2⟩
theorem scalars_flat (e : Sh) : ∀ (l : List D), scalars (flat e l) = true
  | [] => rfl
  | d :: l => scalars_append (scalars_expand e d) (scalars_flat e l)

end Go.Sy

/- Operations that touch no memory: numbers, texts, equality, literals. -/
set_option linter.unusedSimpArgs false
set_option linter.unusedVariables false
namespace Go.Sy
open Go

theorem run_underlying' {P : Program} {t : TypeId} {d : TypeDesc} (h : P.underlying t = some d) (w : World) : (underlying t).run P w = .ok d w := run_underlying h w
theorem run_sizeA {P : Program} {t : TypeId} {n : Nat} (h : sizeA P t = some n) (w : World) : (sizeOf t).run P w = .ok n w := by
  unfold sizeA at h
  split at h
  · rename_i i hi; cases h; simp [sizeOf, typeInfo, hi]
  · cases h
theorem run_bytesA {P : Program} {t : TypeId} {n : Nat} (h : bytesA P t = some n) : ∃ i, P.info? t = some i ∧ i.bytes = n := by
  unfold bytesA at h
  split at h
  · rename_i i hi; cases h; exact ⟨i, hi, rfl⟩
  · cases h
theorem run_zeroA {P : Program} {t : TypeId} {z : AV} (h : zeroA P t = some z) (ρ : Rho) : ∃ v, (∀ w, (zeroValue t).run P w = .ok v w) ∧ Rel ρ z v := by
  unfold zeroA at h
  split at h
  · rename_i i hi
    split at h
    · rename_i u hu
      exact ⟨u, fun w => by simp [zeroValue, typeInfo, hi, hu], rel_ofVal _ _ h⟩
    · cases h
  · cases h
theorem run_isAggA {P : Program} {t : TypeId} {b : Bool} (h : isAggA P t = some b) (w : World) : (isAgg t).run P w = .ok b w := by
  unfold isAggA at h
  split at h <;> rename_i hu
  · cases h; simp [isAgg, run_underlying hu]
  · cases h; simp [isAgg, run_underlying hu]
  · rename_i d hn1 hn2 
    cases h
    rename_i d
    cases d <;> first | (simp [isAgg, run_underlying hu]; done) | (exfalso; first | exact hn1 _ rfl | exact hn2 _ _ rfl)
  · cases h
theorem readL_some {cs : List AV} {off n : Nat} {l : List AV} (h : readL cs off n = some l) : off + n ≤ cs.length ∧ l = (cs.drop off).take n := by
  unfold readL at h
  split at h
  · rename_i hb; cases h; exact ⟨Nat.le_of_ble_eq_true hb, rfl⟩
  · cases h
theorem readL_length {cs : List AV} {off n : Nat} {l : List AV} (h : readL cs off n = some l) : l.length = n := by
  obtain ⟨h1, rfl⟩ := readL_some h
  simp; omega

theorem run_part {P : Program} {t : TypeId} {ρ : Rho} {cs : List AV} {vs : List Value} {off : Nat} {a : AV} (h : partA P t cs off = some a) (hr : Rels ρ cs vs) (w : World) :
    ∃ v, (part t vs.toArray off).run P w = .ok v w ∧ Rel ρ a v := by
  unfold partA at h
  cases hg : isAggA P t with
  | none => rw [hg] at h; cases h
  | some b =>
    rw [hg] at h
    cases b with
    | true =>
      simp only at h
      cases hs : sizeA P t with
      | none => rw [hs] at h; cases h
      | some n =>
        rw [hs] at h
        simp only at h
        cases hl : readL cs off n with
        | none => rw [hl] at h; cases h
        | some l =>
          rw [hl] at h
          cases h
          obtain ⟨hle, rfl⟩ := readL_some hl
          refine ⟨.agg (vs.toArray.extract off (off + n)), by simp [part, run_isAggA hg, run_sizeA hs], ?_⟩
          simp only [Rel]
          refine ⟨(vs.drop off).take n, ?_, (hr.drop off).take n⟩
          simp [List.take_drop]
    | false =>
      simp only at h
      obtain ⟨v, hv, hrel⟩ := hr.get off a h
      exact ⟨v, by simp [part, run_isAggA hg, hv], hrel⟩

/- ### texts -/
theorem eqBytes_eq : ∀ (x y : List UInt8), eqBytes x y = (x == y)
  | [], [] => rfl
  | [], _ :: _ => rfl
  | _ :: _, [] => rfl
  | a :: x, b :: y => by
    simp only [eqBytes, eqBytes_eq x y, List.cons_beq_cons]
    congr 1
    rw [Bool.eq_iff_iff]
    constructor
    · intro h; have := Nat.eq_of_beq_eq_true h; simp [UInt8.toNat_inj.1 this]
    · intro h; simp at h; subst h; simp
theorem ltBytes_eq : ∀ (x y : List UInt8), ltBytes x y = Op.bytesLess x y
  | [], [] => rfl
  | [], _ :: _ => rfl
  | _ :: _, [] => rfl
  | a :: x, b :: y => by
    simp only [ltBytes, Op.bytesLess, ltBytes_eq x y]
    have h1 : Nat.blt a.toNat b.toNat = decide (a < b) := by
      rw [Bool.eq_iff_iff]; simp [Nat.blt_eq, UInt8.lt_iff_toNat_lt]
    have h2 : Nat.beq a.toNat b.toNat = (a == b) := by
      rw [Bool.eq_iff_iff]
      constructor
      · intro h; have := Nat.eq_of_beq_eq_true h; simp [UInt8.toNat_inj.1 this]
      · intro h; simp at h; subst h; simp
    rw [h1, h2]
theorem toList_mk (l : List UInt8) : (ByteArray.mk l.toArray).toList = l := by rw [ByteArray.toList_eq]

/- ### numbers -/
theorem run_intOp {P : Program} {op : BinOp} {k : IntKind} {x y : Int} {a : AV} (h : intOp op k x y = some (true, a)) (t : TypeId) (w : World) (ρ : Rho) :
    ∃ v, (binOp op t (.int k x) (.int k y)).run P w = .ok v w ∧ Rel ρ a v := by
  cases op <;> simp only [intOp, Option.some.injEq, Prod.mk.injEq, Bool.not_eq_true', decide_eq_false_iff_not, true_and, reduceCtorEq] at h
  case quo => obtain ⟨hy, rfl⟩ := h; exact ⟨.int k (k.wrap (x.tdiv y)), by simp [binOp, Op.intDiv, hy], by simp [Rel]⟩
  case rem => obtain ⟨hy, rfl⟩ := h; exact ⟨.int k (x.tmod y), by simp [binOp, Op.intDiv, hy], by simp [Rel]⟩
  case eql => subst h; exact ⟨.bool (decide (x = y)), by simp [binOp, Op.intCmp]; rfl, by simp [Rel]⟩
  case neq => subst h; exact ⟨.bool (!decide (x = y)), by simp [binOp, Op.intCmp]; rfl, by simp [Rel]⟩
  all_goals
    subst h
    first
      | exact ⟨_, by simp [binOp, Op.intArith]; rfl, by simp [Rel]⟩
      | exact ⟨_, by simp [binOp, Op.intBits]; rfl, by simp [Rel]⟩
      | exact ⟨_, by simp [binOp, Op.intCmp]; rfl, by simp [Rel]⟩
theorem run_shiftOp {P : Program} {op : BinOp} {k k' : IntKind} {x y : Int} {a : AV} (ho : op = .shl ∨ op = .shr) (h : shiftOp op k x y = some (true, a)) (t : TypeId) (w : World) (ρ : Rho) :
    ∃ v, (binOp op t (.int k x) (.int k' y)).run P w = .ok v w ∧ Rel ρ a v := by
  rcases ho with rfl | rfl <;> simp only [shiftOp, Option.some.injEq, Prod.mk.injEq, Bool.not_eq_true', decide_eq_false_iff_not] at h <;> obtain ⟨hy', rfl⟩ := h <;>
    exact ⟨_, by simp [binOp, Op.shift, hy']; rfl, by simp [Rel]⟩
theorem run_strOp {P : Program} {op : BinOp} {x y : List UInt8} {a : AV} (h : strOp op x y = some (true, a)) (t : TypeId) (w : World) (ρ : Rho) :
    ∃ v, (binOp op t (.string ⟨x.toArray⟩) (.string ⟨y.toArray⟩)).run P w = .ok v w ∧ Rel ρ a v := by
  cases op <;> simp only [strOp, Option.some.injEq, Prod.mk.injEq, true_and, reduceCtorEq] at h
  case add =>
    obtain ⟨hb, rfl⟩ := h
    have hle := Nat.le_of_ble_eq_true hb
    refine ⟨.string (⟨x.toArray⟩ ++ ⟨y.toArray⟩), ?_, ?_⟩
    · have hs : ¬ (((ByteArray.mk x.toArray).size + (ByteArray.mk y.toArray).size : Nat) : Int) > IntKind.i64.max := by
        have e1 : (ByteArray.mk x.toArray).size = x.length := by simp [ByteArray.size]
        have e2 : (ByteArray.mk y.toArray).size = y.length := by simp [ByteArray.size]
        rw [e1, e2]
        have e3 : IntKind.i64.max = 9223372036854775807 := by decide
        rw [e3]
        omega
      simp only [binOp, Op.stringOp]
      rw [Sem.run_ite, if_neg hs]
      rfl
    · simp only [Rel, Value.string.injEq]
      apply ByteArray.ext
      simp [ByteArray.data_append]
  case eql => subst h; exact ⟨_, rfl, by simp [Rel, eqBytes_eq, toList_mk]⟩
  case neq => subst h; exact ⟨_, rfl, by simp [Rel, eqBytes_eq, toList_mk]⟩
  case lss => subst h; exact ⟨_, rfl, by simp [Rel, ltBytes_eq, toList_mk]⟩
  case leq => subst h; exact ⟨_, rfl, by simp [Rel, eqBytes_eq, ltBytes_eq, toList_mk]⟩
  case gtr => subst h; exact ⟨_, rfl, by simp [Rel, eqBytes_eq, ltBytes_eq, toList_mk]⟩
  case geq => subst h; exact ⟨_, rfl, by simp [Rel, ltBytes_eq, toList_mk]⟩

/- ### equality -/
theorem Rel.str_inv {ρ : Rho} {s : List UInt8} {v : Value} (h : Rel ρ (.str s) v) : v = .string ⟨s.toArray⟩ := by simpa [Rel] using h

theorem fieldsOf_eq {P : Program} {t : TypeId} {fs : Array Field} (h : P.underlying t = some (.struct fs)) : P.fieldsOf t = fs := by simp [Program.fieldsOf, h]

section
variable {P : Program} (w : World) (D : Nat) (t : TypeId)
theorem eqIn_ptr_nil {e : TypeId} (h : P.underlying t = some (.pointer e)) (b : Option Addr) : (Op.equalIn (D + 1) t (.pointer none) (.pointer b)).run P w = .ok b.isNone w := by
  simp [Op.equalIn, run_underlying h]
theorem eqIn_ptr_some {e : TypeId} (h : P.underlying t = some (.pointer e)) (b : Addr) : (Op.equalIn (D + 1) t (.pointer (some b)) (.pointer none)).run P w = .ok false w := by
  simp [Op.equalIn, run_underlying h]
theorem eqIn_sl_nil {e : TypeId} (h : P.underlying t = some (.slice e)) (n c : Nat) (b : Option Addr) (n' c' : Nat) : (Op.equalIn (D + 1) t (.slice none n c) (.slice b n' c')).run P w = .ok b.isNone w := by
  simp [Op.equalIn, run_underlying h]
theorem eqIn_sl_some {e : TypeId} (h : P.underlying t = some (.slice e)) (n c : Nat) (b : Addr) (n' c' : Nat) : (Op.equalIn (D + 1) t (.slice (some b) n c) (.slice none n' c')).run P w = .ok false w := by
  simp [Op.equalIn, run_underlying h]
theorem eqIn_fn_nil {p r : Array TypeId} {v : Bool} (h : P.underlying t = some (.func p r v)) : (Op.equalIn (D + 1) t .nilFunc .nilFunc).run P w = .ok true w := by
  simp [Op.equalIn, run_underlying h]
theorem eqIn_fn_some {p r : Array TypeId} {v : Bool} (h : P.underlying t = some (.func p r v)) (f : Fn) (a b : Array Value) : (Op.equalIn (D + 1) t (.func f a b) .nilFunc).run P w = .ok false w := by
  simp [Op.equalIn, run_underlying h]
theorem eqIn_nil_fn {p r : Array TypeId} {v : Bool} (h : P.underlying t = some (.func p r v)) (f : Fn) (a b : Array Value) : (Op.equalIn (D + 1) t .nilFunc (.func f a b)).run P w = .ok false w := by
  simp [Op.equalIn, run_underlying h]
end


theorem Rel.ptr_form {ρ : Rho} {a : Option (Nat × Nat)} {u : Value} (h : Rel ρ (.ptr a) u) : ∃ p, u = .pointer p := by
  rcases a with _ | ⟨_, _⟩ <;> simp only [Rel] at h
  · exact ⟨_, h⟩
  · obtain ⟨B, o, q, _, e⟩ := h; exact ⟨_, e⟩
theorem Rel.fref_form {ρ : Rho} {sh : Sh} {d : D} {u : Value} (h : Rel ρ (.fref sh d) u) : ∃ p, u = .pointer (some p) := by
  simp only [Rel] at h; obtain ⟨_, _, _, e, _⟩ := h; exact ⟨_, e⟩
theorem Rel.eptr_form {ρ : Rho} {sh : Sh} {b i fo : Nat} {u : Value} (h : Rel ρ (.eptr sh b i fo) u) : ∃ p, u = .pointer (some p) := by
  simp only [Rel] at h; obtain ⟨_, _, _, _, e⟩ := h; exact ⟨_, e⟩
/-- A slice that is not nil. -/
theorem FzR.some_form {F : Nat → Nat → Option Value} {sz : Nat} {R : D → List Value → Prop} {nn : Bool} {l : List D} {v : Value} (h : FzR F sz R nn l v) (hn : nn = true ∨ 0 < l.length) : ∃ p c, v = .slice (some p) l.length c := by
  rcases h with ⟨rfl, rfl, rfl⟩ | ⟨B, o, cap, rfl, _⟩ | ⟨rfl, a, c, rfl⟩
  · rcases hn with h | h
    · cases h
    · simp at h
  · exact ⟨_, _, rfl⟩
  · exact ⟨_, _, rfl⟩
theorem Rel.tsl_some {ρ : Rho} {nn : Bool} {e : Sh} {b off len : Nat} {cap : Cap} {v : Value} (h : Rel ρ (.tsl nn e b off len cap) v) (hn : nn = true ∨ 0 < len) : ∃ p c, v = .slice (some p) len c := by
  simp only [Rel] at h
  obtain ⟨B, o, r, h1, ⟨rfl, rfl, _, _, rfl⟩ | ⟨c, h2, h3, _, h4, rfl | ⟨rfl, x, rfl⟩⟩⟩ := h
  · rcases hn with h | h
    · cases h
    · simp at h
  · exact ⟨_, _, rfl⟩
  · obtain rfl : len = 0 := by omega
    exact ⟨_, _, rfl⟩

mutual
theorem run_eqA {P : Program} {ρ : Rho} : ∀ (d D : Nat) (t : TypeId) (x y : AV) (r : Bool) (u v : Value) (w : World), d ≤ D → eqA P d t x y = some (true, r) → Rel ρ x u → Rel ρ y v →
    (Op.equalIn D t u v).run P w = .ok r w
  | 0, _, _, _, _, _, _, _, _, _, h, _, _ => by simp [eqA] at h
  | d + 1, 0, _, _, _, _, _, _, _, hd, _, _, _ => by omega
  | d + 1, D + 1, t, x, y, r, u, v, w, hd, h, hu, hv => by
    simp only [eqA] at h
    split at h
    · rename_i ht
      split at h
      · cases h; simp only [Rel] at hu hv; subst hu; subst hv; exact run_equalIn_bool' w D t _ _ ht
      · cases h
    · rename_i k0 ht
      split at h
      · rename_i k a k' b
        split at h
        · rename_i hk
          have hk' : k = k' := of_decide_eq_true hk
          cases h; simp only [Rel] at hu hv; subst hu; subst hv; subst hk'
          rw [run_equalIn_int w D t k k0 _ _ ht]; rfl
        · cases h
      · cases h
    · rename_i ht
      split at h
      · cases h; have e1 := hu.str_inv; have e2 := hv.str_inv; subst e1; subst e2
        rw [run_equalIn_string w D t _ _ ht, toList_mk, toList_mk, eqBytes_eq]
      · cases h
    · rename_i e0 ht
      split at h
      · rename_i b
        cases h
        simp only [Rel] at hu; subst hu
        rcases b with _ | ⟨b, off⟩ <;> simp only [Rel] at hv
        · subst hv; exact eqIn_ptr_nil w D t ht _
        · obtain ⟨B, o, q, _, rfl⟩ := hv; exact eqIn_ptr_nil w D t ht _
      · rename_i a
        obtain ⟨b, off⟩ := a
        cases h
        simp only [Rel] at hu hv
        obtain ⟨B, o, q, _, rfl⟩ := hu; subst hv; exact eqIn_ptr_some w D t ht _
      · cases h; obtain ⟨p, rfl⟩ := hu.fref_form; simp only [Rel] at hv; subst hv; exact eqIn_ptr_some w D t ht _
      · cases h; obtain ⟨p, rfl⟩ := hv.fref_form; simp only [Rel] at hu; subst hu; exact eqIn_ptr_nil w D t ht _
      · cases h; obtain ⟨p, rfl⟩ := hu.eptr_form; simp only [Rel] at hv; subst hv; exact eqIn_ptr_some w D t ht _
      · cases h; obtain ⟨p, rfl⟩ := hv.eptr_form; simp only [Rel] at hu; subst hu; exact eqIn_ptr_nil w D t ht _
      · cases h
    · rename_i e0 ht
      split at h
      · cases h; simp only [Rel] at hu hv; subst hu; subst hv; exact eqIn_sl_nil w D t ht _ _ _ _ _
      · cases h; simp only [Rel] at hu hv; obtain ⟨B, o, q, _, _, rfl⟩ := hu; subst hv; exact eqIn_sl_some w D t ht _ _ _ _ _
      · rename_i nn e1 l
        have hv' := hv
        simp only [Rel] at hu hv'
        subst hv'
        split at h
        · cases h; obtain ⟨p, c, rfl⟩ := hu.some_form (.inl rfl); exact eqIn_sl_some w D t ht _ _ _ _ _
        · simp only [Option.some.injEq, Prod.mk.injEq] at h
          obtain ⟨h1, rfl⟩ := h
          obtain ⟨p, c, rfl⟩ := hu.some_form (.inr (by simpa [Nat.blt_eq] using h1)); exact eqIn_sl_some w D t ht _ _ _ _ _
      · rename_i nn e1 b off len cap
        have hv' := hv
        simp only [Rel] at hv'
        subst hv'
        split at h
        · cases h; obtain ⟨p, c, rfl⟩ := hu.tsl_some (.inl rfl); exact eqIn_sl_some w D t ht _ _ _ _ _
        · simp only [Option.some.injEq, Prod.mk.injEq] at h
          obtain ⟨h1, rfl⟩ := h
          obtain ⟨p, c, rfl⟩ := hu.tsl_some (.inr (by simpa [Nat.blt_eq] using h1)); exact eqIn_sl_some w D t ht _ _ _ _ _
      · cases h
    · rename_i p0 r0 v0 ht
      split at h
      · cases h; simp only [Rel] at hu hv; subst hu; subst hv; exact eqIn_fn_nil w D t ht
      · cases h; simp only [Rel] at hu hv; subst hu; obtain ⟨_, _, rfl, _⟩ := hv; exact eqIn_nil_fn w D t ht _ _ _
      · cases h; simp only [Rel] at hu hv; subst hv; obtain ⟨_, _, rfl, _⟩ := hu; exact eqIn_fn_some w D t ht _ _ _
      · cases h
    · rename_i fs ht
      split at h
      · rename_i xs ys
        split at h
        · cases h
        · rename_i hp
          simp only [Rel] at hu hv
          obtain ⟨l, rfl, hl⟩ := hu
          obtain ⟨m, rfl, hm⟩ := hv
          rw [run_equalIn_struct w D t _ _ (by rw [fieldsOf_eq ht]; exact ht) hp, fieldsOf_eq ht]
          exact run_eqFieldsA d D fs.toList xs ys r l m w (by omega) h hl hm
      · cases h
    · rename_i len e ht
      split at h
      · rename_i xs ys
        split at h
        · rename_i n hn
          simp only [Rel] at hu hv
          obtain ⟨l, rfl, hl⟩ := hu
          obtain ⟨m, rfl, hm⟩ := hv
          have hi : ∃ i, P.info? e = some i ∧ P.cellsOf e = n := by
            unfold sizeA at hn
            split at hn
            · rename_i i hi; cases hn; exact ⟨i, hi, by simp [Program.cellsOf, hi]⟩
            · cases hn
          obtain ⟨i, hi, hc⟩ := hi
          rw [run_equalIn_array w D _ _ ht hi, hc, List.range_eq_range']
          exact run_eqElemsA d D e n xs ys len 0 r l m w (by omega) h hl hm
        · cases h
      · cases h
    · cases h
theorem run_eqFieldsA {P : Program} {ρ : Rho} : ∀ (d D : Nat) (fs : List Field) (xs ys : List AV) (r : Bool) (us vs : List Value) (w : World), d ≤ D → eqFieldsA P d fs xs ys = some (true, r) → Rels ρ xs us → Rels ρ ys vs →
    (Op.eqFields D us.toArray vs.toArray fs).run P w = .ok r w
  | 0, _, _, _, _, _, _, _, _, _, h, _, _ => by simp [eqFieldsA] at h
  | d + 1, 0, _, _, _, _, _, _, _, hd, _, _, _ => by omega
  | d + 1, D + 1, [], xs, ys, r, us, vs, w, hd, h, hx, hy => by
    simp only [eqFieldsA] at h; cases h; simp [Op.eqFields]
  | d + 1, D + 1, f :: fs, xs, ys, r, us, vs, w, hd, h, hx, hy => by
    simp only [eqFieldsA] at h
    split at h
    · rename_i hn
      have hn' : f.name = "_" := by simpa using hn
      simp only [Op.eqFields, hn', ne_eq, not_true_eq_false, if_false]
      exact run_eqFieldsA d (D + 1) fs xs ys r us vs w (by omega) h hx hy
    · rename_i hn
      have hn' : ¬ f.name = "_" := by simpa using hn
      split at h
      · cases h
      · rename_i a ha
        split at h
        · cases h
        · rename_i b hb
          obtain ⟨u, hu, ru⟩ := run_part ha hx w
          obtain ⟨v, hv, rv⟩ := run_part hb hy w
          split at h
          · cases h
          · rename_i g r1 he
            split at h
            · cases h
            · rename_i g' r2 hr
              simp only [Option.some.injEq, Prod.mk.injEq, Bool.and_eq_true] at h
              obtain ⟨⟨rfl, rfl⟩, rfl⟩ := h
              have h1 := run_eqA d (D + 1) f.type a b r1 u v w (by omega) he ru rv
              have h2 := run_eqFieldsA d (D + 1) fs xs ys r2 us vs w (by omega) hr hx hy
              simp only [Op.eqFields, hn', ne_eq, not_false_eq_true, if_true, Sem.run_bind, hu, hv, h1, Result.andThen_ok]
              cases r1
              · simp
              · simpa using h2
theorem run_eqElemsA {P : Program} {ρ : Rho} : ∀ (d D : Nat) (e : TypeId) (n : Nat) (xs ys : List AV) (k i : Nat) (r : Bool) (us vs : List Value) (w : World), d ≤ D → eqElemsA P d e n xs ys k i = some (true, r) → Rels ρ xs us → Rels ρ ys vs →
    (Op.eqItems D e n us.toArray vs.toArray (List.range' i k)).run P w = .ok r w
  | 0, _, _, _, _, _, _, _, _, _, _, _, _, h, _, _ => by simp [eqElemsA] at h
  | d + 1, 0, _, _, _, _, _, _, _, _, _, _, hd, _, _, _ => by omega
  | d + 1, D + 1, e, n, xs, ys, 0, i, r, us, vs, w, hd, h, hx, hy => by
    simp only [eqElemsA] at h; cases h; simp [Op.eqItems]
  | d + 1, D + 1, e, n, xs, ys, k + 1, i, r, us, vs, w, hd, h, hx, hy => by
    simp only [eqElemsA] at h
    split at h
    · cases h
    · rename_i a ha
      split at h
      · cases h
      · rename_i b hb
        obtain ⟨u, hu, ru⟩ := run_part ha hx w
        obtain ⟨v, hv, rv⟩ := run_part hb hy w
        split at h
        · cases h
        · rename_i g r1 he
          split at h
          · cases h
          · rename_i g' r2 hr
            simp only [Option.some.injEq, Prod.mk.injEq, Bool.and_eq_true] at h
            obtain ⟨⟨rfl, rfl⟩, rfl⟩ := h
            have h1 := run_eqA d (D + 1) e a b r1 u v w (by omega) he ru rv
            have h2 := run_eqElemsA d (D + 1) e n xs ys k (i + 1) r2 us vs w (by omega) hr hx hy
            simp only [List.range'_succ, Op.eqItems, Sem.run_bind, hu, hv, h1, Result.andThen_ok]
            cases r1
            · simp
            · simpa using h2
end

section
variable {P : Program} {ρ : Rho} (w : World)
theorem run_equalA {t : TypeId} {x y : AV} {r : Bool} {u v : Value} (h : equalA P t x y = some (true, r)) (hu : Rel ρ x u) (hv : Rel ρ y v) :
    (Op.equal t u v).run P w = .ok r w ∧ ∀ (op : BinOp) (a b : Operand), (eqGuard op t a b u v).run P w = .ok () w := by
  unfold equalA at h
  split at h
  · cases h
  · rename_i hg
    refine ⟨run_eqA 200 10000 t x y r u v w (by omega) h hu hv, fun op a b => ?_⟩
    cases x with
    | agg cs =>
      have hg' : P.eqGuardType P.depth t = false := by simpa [isAggV] using hg
      simp only [Rel] at hu
      obtain ⟨l, rfl, _⟩ := hu
      by_cases hv' : ∃ m, v = .agg m
      · obtain ⟨m, rfl⟩ := hv'; exact run_eqGuard_agg w op t a b _ _ hg'
      · have : eqGuard op t a b (.agg l.toArray) v = pure () := by
          cases op <;> cases v <;> first | rfl | exact absurd ⟨_, rfl⟩ hv'
        rw [this]; rfl
    | any => simp [Rel] at hu
    | lit x' => simp only [eqA] at h; revert h; split <;> (intro h; first | cases h | (split at h <;> cases h))
    | tup x' => simp only [eqA] at h; revert h; split <;> (intro h; first | cases h | (split at h <;> cases h))
    | bool b' => simp only [Rel] at hu; subst hu; rw [eqGuard_at_bool]; rfl
    | int k n => simp only [Rel] at hu; subst hu; rw [eqGuard_at_int]; rfl
    | str s => simp only [Rel] at hu; subst hu; rw [eqGuard_at_string]; rfl
    | nilFn => simp only [Rel] at hu; subst hu; cases op <;> rfl
    | fn f x y =>
      simp only [Rel] at hu
      obtain ⟨a1, a2, rfl, _⟩ := hu
      rw [eqGuard_at_func]; rfl
    | ptr p => obtain ⟨q, rfl⟩ := hu.ptr_form; rw [eqGuard_at_pointer]; rfl
    | fref sh d => obtain ⟨q, rfl⟩ := hu.fref_form; rw [eqGuard_at_pointer]; rfl
    | eptr e b i fo => obtain ⟨q, rfl⟩ := hu.eptr_form; rw [eqGuard_at_pointer]; rfl
    | nilSl => simp only [Rel] at hu; subst hu; rw [eqGuard_at_slice]; rfl
    | sl b off len cap => simp only [Rel] at hu; obtain ⟨B, o, q, _, _, rfl⟩ := hu; rw [eqGuard_at_slice]; rfl
    | fz nn e l => simp only [Rel] at hu; obtain ⟨p, c, rfl⟩ := hu.form; rw [eqGuard_at_slice]; rfl
    | tsl nn e b off len cap => obtain ⟨p, c, rfl⟩ := hu.tsl_form; rw [eqGuard_at_slice]; rfl

/-- Two real values that '==' of the abstract machine tells of, beside numbers and texts. -/
def pairV : Value → Value → Bool
  | .bool _, .bool _ => true
  | .pointer _, .pointer _ => true
  | .slice _ _ _, .slice _ _ _ => true
  | .nilFunc, .nilFunc => true
  | .nilFunc, .func _ _ _ => true
  | .func _ _ _, .nilFunc => true
  | .agg _, .agg _ => true
  | _, _ => false
theorem eqA_shape {d : Nat} {t : TypeId} {x y : AV} {gr : Bool × Bool} {u v : Value} (h : eqA P d t x y = some gr) (hu : Rel ρ x u) (hv : Rel ρ y v) :
    (∃ k n k' m, x = .int k n ∧ y = .int k' m) ∨ (∃ a b, x = .str a ∧ y = .str b) ∨ pairV u v = true := by
  cases d with
  | zero => simp [eqA] at h
  | succ d =>
    simp only [eqA] at h
    split at h
    · split at h
      · simp only [Rel] at hu hv; subst hu; subst hv; exact .inr (.inr rfl)
      · cases h
    · split at h
      · exact .inl ⟨_, _, _, _, rfl, rfl⟩
      · cases h
    · split at h
      · exact .inr (.inl ⟨_, _, rfl, rfl⟩)
      · cases h
    · split at h
      · obtain ⟨p, rfl⟩ := hu.ptr_form; obtain ⟨q, rfl⟩ := hv.ptr_form; exact .inr (.inr rfl)
      · obtain ⟨p, rfl⟩ := hu.ptr_form; obtain ⟨q, rfl⟩ := hv.ptr_form; exact .inr (.inr rfl)
      · obtain ⟨p, rfl⟩ := hu.fref_form; obtain ⟨q, rfl⟩ := hv.ptr_form; exact .inr (.inr rfl)
      · obtain ⟨p, rfl⟩ := hu.ptr_form; obtain ⟨q, rfl⟩ := hv.fref_form; exact .inr (.inr rfl)
      · obtain ⟨p, rfl⟩ := hu.eptr_form; obtain ⟨q, rfl⟩ := hv.ptr_form; exact .inr (.inr rfl)
      · obtain ⟨p, rfl⟩ := hu.ptr_form; obtain ⟨q, rfl⟩ := hv.eptr_form; exact .inr (.inr rfl)
      · cases h
    · split at h
      · simp only [Rel] at hu hv; subst hu; subst hv; exact .inr (.inr rfl)
      · simp only [Rel] at hu hv; obtain ⟨B, o, q, _, _, rfl⟩ := hu; subst hv; exact .inr (.inr rfl)
      · simp only [Rel] at hu hv; obtain ⟨p, c, rfl⟩ := hu.form; subst hv; exact .inr (.inr rfl)
      · obtain ⟨p, c, rfl⟩ := hu.tsl_form; simp only [Rel] at hv; subst hv; exact .inr (.inr rfl)
      · cases h
    · split at h
      · simp only [Rel] at hu hv; subst hu; subst hv; exact .inr (.inr rfl)
      · simp only [Rel] at hu hv; subst hu; obtain ⟨_, _, rfl, _⟩ := hv; exact .inr (.inr rfl)
      · simp only [Rel] at hu hv; subst hv; obtain ⟨_, _, rfl, _⟩ := hu; exact .inr (.inr rfl)
      · cases h
    · split at h
      · simp only [Rel] at hu hv; obtain ⟨_, rfl, _⟩ := hu; obtain ⟨_, rfl, _⟩ := hv; exact .inr (.inr rfl)
      · cases h
    · split at h
      · simp only [Rel] at hu hv; obtain ⟨_, rfl, _⟩ := hu; obtain ⟨_, rfl, _⟩ := hv; exact .inr (.inr rfl)
      · cases h
    · cases h
theorem binOp_eql_eq {t : TypeId} {u v : Value} (hp : pairV u v = true) : binOp .eql t u v = (do pure (.bool (← Op.equal t u v))) := by
  cases u <;> cases v <;> first | rfl | (simp [pairV] at hp)
theorem binOp_neq_eq {t : TypeId} {u v : Value} (hp : pairV u v = true) : binOp .neq t u v = (do pure (.bool (!(← Op.equal t u v)))) := by
  cases u <;> cases v <;> first | rfl | (simp [pairV] at hp)


theorem run_binA {op : BinOp} {t : TypeId} {x y a : AV} {u v : Value} (h : binA P op t x y = some (true, a)) (hu : Rel ρ x u) (hv : Rel ρ y v) (p q : Operand) :
    ∃ r, (do eqGuard op t p q u v; binOp op t u v : Sem Value).run P w = .ok r w ∧ Rel ρ a r := by
  unfold binA at h
  split at h
  · rename_i k n k' m
    simp only [Rel] at hu hv; subst hu; subst hv
    rw [eqGuard_at_int]
    simp only [Sem.run_bind, Sem.run_pure, Result.andThen_ok]
    split at h
    · exact run_shiftOp (.inl rfl) h t w ρ
    · exact run_shiftOp (.inr rfl) h t w ρ
    · split at h
      · rename_i hk
        have hk' : k = k' := of_decide_eq_true hk
        subst hk'
        exact run_intOp h t w ρ
      · cases h
  · rename_i s1 s2
    have e1 := hu.str_inv
    have e2 := hv.str_inv
    subst e1; subst e2
    rw [eqGuard_at_string]
    simp only [Sem.run_bind, Sem.run_pure, Result.andThen_ok]
    exact run_strOp h t w ρ
  · rename_i hi hs
    split at h
    · split at h
      · rename_i g r hr
        simp only [Option.some.injEq, Prod.mk.injEq] at h
        obtain ⟨rfl, rfl⟩ := h
        obtain ⟨h1, h2⟩ := run_equalA w hr hu hv
        have he : eqA P 200 t x y = some (true, r) := by unfold equalA at hr; split at hr <;> first | cases hr | exact hr
        rcases eqA_shape he hu hv with ⟨k, n, k', m, rfl, rfl⟩ | ⟨s1, s2, rfl, rfl⟩ | hp
        · exact absurd rfl (hi _ _ _ _ rfl)
        · exact absurd rfl (hs _ _ rfl)
        · refine ⟨.bool r, ?_, by simp [Rel]⟩
          rw [binOp_eql_eq hp]
          simp [h2, h1]
      · cases h
    · split at h
      · rename_i g r hr
        simp only [Option.some.injEq, Prod.mk.injEq] at h
        obtain ⟨rfl, rfl⟩ := h
        obtain ⟨h1, h2⟩ := run_equalA w hr hu hv
        have he : eqA P 200 t x y = some (true, r) := by unfold equalA at hr; split at hr <;> first | cases hr | exact hr
        rcases eqA_shape he hu hv with ⟨k, n, k', m, rfl, rfl⟩ | ⟨s1, s2, rfl, rfl⟩ | hp
        · exact absurd rfl (hi _ _ _ _ rfl)
        · exact absurd rfl (hs _ _ rfl)
        · refine ⟨.bool (!r), ?_, by simp [Rel]⟩
          rw [binOp_neq_eq hp]
          simp [h2, h1]
      · cases h
    · cases h

theorem run_unA {op : UnOp} {x a : AV} {u : Value} (h : unA op x = some (true, a)) (hu : Rel ρ x u) : ∃ r, (Op.unary op u).run P w = .ok r w ∧ Rel ρ a r := by
  unfold unA at h
  split at h
  · cases h; simp only [Rel] at hu; subst hu; exact ⟨_, by simp [Op.unary, Op.intArith]; rfl, by simp [Rel]⟩
  · rename_i k n
    simp only [Rel] at hu; subst hu
    simp only [intOp, Option.some.injEq, Prod.mk.injEq, true_and] at h
    subst h
    exact ⟨_, by simp [Op.unary, Op.intBits]; rfl, by simp [Rel]⟩
  · cases h; simp only [Rel] at hu; subst hu; exact ⟨_, by simp [Op.unary]; rfl, by simp [Rel]⟩
  · cases h

/- ### literals -/
theorem writeL_length (cs : List AV) (off : Nat) (vs : List AV) (h : off + vs.length ≤ cs.length) : (writeL cs off vs).length = cs.length := by
  simp [writeL]; omega
def writeV (cs : List Value) (off : Nat) (vs : List Value) : List Value := cs.take off ++ (vs ++ cs.drop (off + vs.length))
theorem Rels.write {cs vs : List AV} {cs' vs' : List Value} {off : Nat} (h : Rels ρ cs cs') (k : Rels ρ vs vs') : Rels ρ (writeL cs off vs) (writeV cs' off vs') := by
  unfold writeL writeV
  rw [k.length]
  exact (h.take _).append (k.append (h.drop _))
theorem foldl_write (off : Nat) (l : List Value) (cs : Array Value) (h : off + l.length ≤ cs.size) :
    (l.zipIdx 0).foldl (fun cs (x : Value × Nat) => cs.setIfInBounds (off + x.2) x.1) cs = (writeV cs.toList off l).toArray := by
  obtain ⟨h1, h2⟩ := Great.foldl_set off l 0 cs
  apply Array.ext'
  apply List.ext_getElem?
  intro k
  have h3 := h2 k
  simp only [Nat.add_zero] at h3
  rw [Array.getElem?_toList, h3]
  simp only [writeV]
  by_cases hk : off ≤ k ∧ k < off + l.length ∧ k < cs.size
  · rw [if_pos hk]
    rw [List.getElem?_append_right (by simp; omega), List.getElem?_append_left (by simp; omega)]
    simp [Nat.min_eq_left (show off ≤ cs.size by omega)]
  · rw [if_neg hk]
    by_cases h4 : k < off
    · rw [List.getElem?_append_left (by simp; omega)]
      simp [h4]
    · by_cases h5 : k < cs.size
      · rw [List.getElem?_append_right (by simp; omega), List.getElem?_append_right (by simp; omega)]
        simp [Nat.min_eq_left (show off ≤ cs.size by omega)]
        congr 1; omega
      · rw [List.getElem?_eq_none (by simp; omega), Array.getElem?_eq_none (by omega)]
def RelParts (ρ : Rho) : List (Nat × AV) → List (Nat × Value) → Prop
  | [], l => l = []
  | (i, a) :: as, l => ∃ v vs, l = (i, v) :: vs ∧ Rel ρ a v ∧ RelParts ρ as vs
theorem fill_fillA {place placeV : Nat → Option (Nat × Nat)} (hp : ∀ i x, place i = some x → placeV i = some x) : ∀ (ps : List (Nat × AV)) (qs : List (Nat × Value)) (cs : List AV) (cs' : List Value) (r : List AV),
    fillA place cs ps = some r → RelParts ρ ps qs → Rels ρ cs cs' → ∃ r', Instr.fill placeV cs'.toArray qs = some r'.toArray ∧ Rels ρ r r'
  | [], qs, cs, cs', r, h, hq, hc => by
    simp only [RelParts] at hq; subst hq
    simp only [fillA] at h; cases h
    exact ⟨cs', rfl, hc⟩
  | (i, a) :: ps, qs, cs, cs', r, h, hq, hc => by
    simp only [RelParts] at hq
    obtain ⟨v, vs, rfl, hv, hq'⟩ := hq
    simp only [fillA] at h
    split at h
    · cases h
    · rename_i off size hpl
      split at h
      · rename_i hb
        simp only [Bool.and_eq_true] at hb
        have e1 := Nat.eq_of_beq_eq_true hb.1
        have e2 := Nat.le_of_ble_eq_true hb.2
        have hl := hv.cells.length
        have hcl := hc.length
        simp only [Array.length_toList] at hl
        obtain ⟨r', hr', hrel⟩ := fill_fillA hp ps vs (writeL cs off a.cells) (writeV cs' off v.cells.toList) r h hq' (hc.write hv.cells)
        refine ⟨r', ?_, hrel⟩
        rw [← hr']
        conv => lhs; unfold Instr.fill
        simp only [hp _ _ hpl]
        rw [if_neg (by simp; omega)]
        congr 1
        rw [← Array.foldl_toList, Array.toList_zipIdx]
        exact foldl_write off v.cells.toList cs'.toArray (by simp; omega)
      · cases h

theorem run_placesA : ∀ (fs : List Field) (l : List (Nat × Nat)) (w : World), placesA P fs = some l → (fs.mapM fun f => (do pure (f.offset, ← sizeOf f.type) : Sem (Nat × Nat))).run P w = .ok l w
  | [], l, w, h => by simp only [placesA] at h; cases h; simp
  | f :: fs, l, w, h => by
    simp only [placesA] at h
    split at h
    · cases h
    · rename_i n hn
      split at h
      · cases h
      · rename_i l' hl'
        cases h
        have ih := run_placesA fs l' w hl'
        rw [List.mapM_cons]
        simp only [Sem.run_bind, run_sizeA hn, Result.andThen_ok, Sem.run_pure, ih]
theorem run_buildA {t : TypeId} {ps : List (Nat × AV)} {qs : List (Nat × Value)} {a : AV} (h : buildA P t ps = some a) (hq : RelParts ρ ps qs) :
    ∃ v, (Instr.build t qs.toArray).run P w = .ok v w ∧ Rel ρ a v := by
  unfold buildA at h
  split at h
  · cases h
  · rename_i z hz
    obtain ⟨zv, hzr, hzrel⟩ := run_zeroA hz ρ
    split at h
    · rename_i fields hu
      split at h
      · cases h
      · rename_i pl hpl
        split at h
        · rename_i cs hf
          cases h
          obtain ⟨r', hr', hrel⟩ := fill_fillA (placeV := fun i => pl.toArray[i]?) (by intro i x hx; simpa using hx) ps qs z.cells zv.cells.toList cs hf hq hzrel.cells
          refine ⟨.agg r'.toArray, ?_, by simp only [Rel]; exact ⟨r', rfl, hrel⟩⟩
          have hm : (fields.mapM fun f => (do pure (f.offset, ← sizeOf f.type) : Sem (Nat × Nat))).run P w = .ok pl.toArray w := by
            rw [Array.mapM_eq_mapM_toList, Sem.run_map, run_placesA fields.toList pl w hpl]
            rfl
          simp only [Array.toArray_toList] at hr'
          simp only [Instr.build, Sem.run_bind, hzr, Result.andThen_ok, run_underlying hu, hm, hr', Sem.run_pure]
        · cases h
    · rename_i k e hu
      split at h
      · cases h
      · rename_i n hn
        split at h
        · rename_i cs hf
          cases h
          obtain ⟨r', hr', hrel⟩ := fill_fillA (placeV := fun i => some (i * n, n)) (by intro i x hx; exact hx) ps qs z.cells zv.cells.toList cs hf hq hzrel.cells
          refine ⟨.agg r'.toArray, ?_, by simp only [Rel]; exact ⟨r', rfl, hrel⟩⟩
          simp only [Array.toArray_toList] at hr'
          simp only [Instr.build, Sem.run_bind, hzr, Result.andThen_ok, run_underlying hu, run_sizeA hn, hr', Sem.run_pure]
        · cases h
    · cases h
/- ### slices, indexes, fields -/

end
end Go.Sy

/- Operations that touch no memory: slices, indexes, fields; one law for all. -/
set_option linter.unusedSimpArgs false
set_option linter.unusedVariables false
namespace Go.Sy
open Go

section
variable {P : Program} {ρ : Rho} (w : World)

/- ### bounds -/
theorem run_boundA' {x : AV} {y y' n : Nat} {u : Value} (h : boundA x y = some (true, n)) (hy : y ≤ y') (hu : Rel ρ x u) (code : BoundsCode) : (Instr.sliceBound u y' code).run P w = .ok n w ∧ n ≤ y := by
  unfold boundA at h
  split at h
  · rename_i k i
    simp only [Rel] at hu; subst hu
    simp only [Option.some.injEq, Prod.mk.injEq, Bool.and_eq_true, decide_eq_true_eq] at h
    obtain ⟨hb, rfl⟩ := h
    refine ⟨?_, by omega⟩
    have hb' : 0 ≤ i ∧ i ≤ (y' : Int) := ⟨hb.1, by omega⟩
    simp [Instr.sliceBound, asIntOf, hb']
  · cases h
def RelO (ρ : Rho) : Option AV → Option Value → Prop
  | none, v => v = none
  | some a, v => ∃ u, v = some u ∧ Rel ρ a u
theorem run_boundsA {isSl : Bool} {len cap top l h : Nat} {lo hi : Option AV} {lo' hi' : Option Value} (e : boundsA lo hi top len = some (true, l, h)) (ht : top ≤ cap) (hlen : len ≤ top)
    (rl : RelO ρ lo lo') (rh : RelO ρ hi hi') : (Instr.sliceBounds isSl len cap lo' hi' none).run P w = .ok (l, h, cap) w ∧ l ≤ h ∧ h ≤ top := by
  unfold boundsA at e
  split at e
  · cases e
  · rename_i g hh eh
    split at e
    · cases e
    · rename_i g' ll el
      simp only [Option.some.injEq, Prod.mk.injEq, Bool.and_eq_true] at e
      obtain ⟨⟨rfl, rfl⟩, rfl, rfl⟩ := e
      cases hi with
      | none =>
        simp only [RelO] at rh; subst rh
        simp only [boundOr, Option.some.injEq, Prod.mk.injEq, true_and] at eh; subst eh
        cases lo with
        | none =>
          simp only [RelO] at rl; subst rl
          simp only [boundOr, Option.some.injEq, Prod.mk.injEq, true_and] at el; subst el
          exact ⟨by simp [Instr.sliceBounds], by omega, hlen⟩
        | some lv =>
          simp only [RelO] at rl; obtain ⟨lu, rfl, rl⟩ := rl
          obtain ⟨b1, b2⟩ := run_boundA' (P := P) w (show boundA lv len = some (true, ll) from el) (Nat.le_refl _) rl .sliceB
          exact ⟨by simp [Instr.sliceBounds, b1], b2, hlen⟩
      | some hv =>
        simp only [RelO] at rh; obtain ⟨hu, rfl, rh⟩ := rh
        obtain ⟨c1, c2⟩ := run_boundA' (P := P) w (show boundA hv top = some (true, hh) from eh) ht rh (if isSl then .sliceAcap else .sliceAlen)
        cases lo with
        | none =>
          simp only [RelO] at rl; subst rl
          simp only [boundOr, Option.some.injEq, Prod.mk.injEq, true_and] at el; subst el
          exact ⟨by simp [Instr.sliceBounds, c1], by omega, c2⟩
        | some lv =>
          simp only [RelO] at rl; obtain ⟨lu, rfl, rl⟩ := rl
          obtain ⟨b1, b2⟩ := run_boundA' (P := P) w (show boundA lv hh = some (true, ll) from el) (Nat.le_refl _) rl .sliceB
          exact ⟨by simp [Instr.sliceBounds, c1, b1], b2, c2⟩

theorem FzR.sub {F : Nat → Nat → Option Value} {sz : Nat} {R : D → List Value → Prop} {l : List D} {a h B o cap : Nat} (hx : ∀ (i : Nat) (d : D), l[i]? = some d → ∃ vs, R d vs ∧ ∀ (j : Nat) (u : Value), vs[j]? = some u → F B (o + i * sz + j) = some u)
    (hah : a ≤ h) (hh : h ≤ l.length) (hc : l.length ≤ cap) : FzR F sz R false ((l.take h).drop a) (.slice (some ⟨B, o + a * sz, none⟩) (h - a) (cap - a)) := by
  refine .inr (.inl ⟨B, o + a * sz, cap - a, ?_, ?_, fun i d hd => ?_⟩)
  · simp; omega
  · simp; omega
  · rw [List.getElem?_drop, List.getElem?_take] at hd
    split at hd
    · obtain ⟨vs, h1, h2⟩ := hx _ d hd
      refine ⟨vs, h1, fun j u hu => ?_⟩
      have := h2 j u hu
      rwa [show o + (a + i) * sz + j = o + a * sz + i * sz + j by rw [Nat.add_mul]; omega] at this
    · cases hd

theorem size_mk (l : List UInt8) : (ByteArray.mk l.toArray).size = l.length := by simp [ByteArray.size]
theorem run_sliceS {t : TypeId} {x a : AV} {lo hi : Option AV} {lo' hi' : Option Value} {u : Value} (h : sliceS P t x lo hi = some (true, a)) (hu : Rel ρ x u)
    (rl : RelO ρ lo lo') (rh : RelO ρ hi hi') :
    ∃ r, (Instr.sliceAt t u lo' hi' none).run P w = .ok r w ∧ Rel ρ a r := by
  unfold sliceS at h
  split at h
  · rename_i ht
    split at h
    · rename_i s
      have e := hu.str_inv
      subst e
      split at h
      · rename_i g l hn hb
        simp only [Option.some.injEq, Prod.mk.injEq] at h
        obtain ⟨rfl, rfl⟩ := h
        obtain ⟨h1, h2, h3⟩ := run_boundsA (P := P) w (isSl := false) (cap := s.length) hb (Nat.le_refl _) (Nat.le_refl _) rl rh
        have e0 : (ByteArray.mk s.toArray).size = s.length := size_mk s
        refine ⟨.string ((ByteArray.mk s.toArray).extract l hn), by simp [Instr.sliceAt, Instr.slice, run_underlying ht, e0, h1], ?_⟩
        simp only [Rel, Value.string.injEq]
        apply ByteArray.ext
        simp [ByteArray.data_extract]
        rw [List.drop_take]
      · cases h
    · cases h
  · rename_i e ht
    split at h
    · rename_i n hn
      split at h
      · rename_i g l hh hb
        simp only [Option.some.injEq, Prod.mk.injEq] at h
        obtain ⟨rfl, rfl⟩ := h
        simp only [Rel] at hu; subst hu
        obtain ⟨h1, h2, h3⟩ := run_boundsA (P := P) w (isSl := true) (cap := 0) hb (Nat.le_refl _) (Nat.le_refl _) rl rh
        obtain rfl : hh = 0 := by omega
        obtain rfl : l = 0 := by omega
        exact ⟨.slice none 0 0, by simp [Instr.sliceAt, Instr.slice, run_underlying ht, h1, run_sizeA hn], by simp [Rel]⟩
      · cases h
    · rename_i nn sh l n hn
      split at h
      · rename_i g a0 hh hsz hb
        simp only [Option.some.injEq, Prod.mk.injEq] at h
        obtain ⟨rfl, rfl⟩ := h
        have hsz' := Nat.eq_of_beq_eq_true hsz
        simp only [Rel] at hu
        rcases hu with ⟨_, rfl, rfl⟩ | ⟨B, o, cap, rfl, hc, hx⟩ | ⟨rfl, ad, c, rfl⟩
        · obtain ⟨h1, h2, h3⟩ := run_boundsA (P := P) w (isSl := true) (cap := 0) hb (Nat.le_refl _) (Nat.le_refl _) rl rh
          simp only [List.length_nil] at h1 h3
          obtain rfl : hh = 0 := by omega
          obtain rfl : a0 = 0 := by omega
          exact ⟨.slice none 0 0, by simp [Instr.sliceAt, Instr.slice, run_underlying ht, h1, run_sizeA hn], by simp [Rel, FzR]⟩
        · obtain ⟨h1, h2, h3⟩ := run_boundsA (P := P) w (isSl := true) (cap := cap) hb hc (Nat.le_refl _) rl rh
          by_cases hcl : cap = a0
          · subst hcl
            refine ⟨.slice (some ⟨B, o, none⟩) (hh - cap) (cap - cap), by simp [Instr.sliceAt, Instr.slice, run_underlying ht, h1, run_sizeA hn], ?_⟩
            simp only [Rel]
            have e0 : (l.take hh).drop cap = [] := by apply List.eq_nil_of_length_eq_zero; simp; omega
            rw [e0]
            exact .inr (.inl ⟨B, o, cap - cap, by simp; omega, by simp, fun i d hd => by simp at hd⟩)
          · refine ⟨.slice (some ⟨B, o + a0 * n, none⟩) (hh - a0) (cap - a0), by simp [Instr.sliceAt, Instr.slice, run_underlying ht, h1, run_sizeA hn, hcl, Addr.add_lit], ?_⟩
            simp only [Rel]
            rw [← hsz']
            exact FzR.sub hx h2 h3 hc
        · obtain ⟨h1, h2, h3⟩ := run_boundsA (P := P) w (isSl := true) (cap := c) hb (Nat.zero_le _) (Nat.le_refl _) rl rh
          simp only [List.length_nil] at h1 h3
          obtain rfl : hh = 0 := by omega
          obtain rfl : a0 = 0 := by omega
          refine ⟨.slice (some ad) 0 c, ?_, ?_⟩
          · by_cases hc0 : c = 0
            · subst hc0; simp [Instr.sliceAt, Instr.slice, run_underlying ht, h1, run_sizeA hn]
            · simp [Instr.sliceAt, Instr.slice, run_underlying ht, h1, run_sizeA hn, hc0, Addr.add]
          · simp only [Rel]
            exact .inr (.inr ⟨by simp, ad, c, rfl⟩)
      · cases h
    · rename_i nn sh b off len cap n hn
      split at h
      · rename_i hsz
        have hsz' := Nat.eq_of_beq_eq_true hsz
        split at h
        · rename_i g a0 hh hb
          simp only [Option.some.injEq, Prod.mk.injEq] at h
          obtain ⟨rfl, rfl⟩ := h
          simp only [Rel] at hu
          obtain ⟨B, o, r, hρ, hu⟩ := hu
          rcases hu with ⟨rfl, rfl, ht0, hr0, rfl⟩ | ⟨c, hlt, htop, hex, hfit, hu⟩
          · rw [ht0] at hb
            obtain ⟨h1, h2, h3⟩ := run_boundsA (P := P) w (isSl := true) (cap := 0) hb (Nat.le_refl _) (Nat.le_refl _) rl rh
            obtain rfl : hh = 0 := by omega
            obtain rfl : a0 = 0 := by omega
            refine ⟨.slice none 0 0, by simp [Instr.sliceAt, Instr.slice, run_underlying ht, h1, run_sizeA hn], ?_⟩
            simp only [Rel]
            exact ⟨B, o, r, hρ, .inl (by simp only [hr0]; cases cap <;> simp_all [Cap.sub, Cap.top])⟩
          · obtain ⟨h1, h2, h3⟩ := run_boundsA (P := P) w (isSl := true) (cap := c) hb htop hlt rl rh
            have hsub : (hh - a0 ≤ (cap.sub len a0).top (hh - a0)) ∧ (cap.sub len a0).top (hh - a0) ≤ c - a0 ∧ (cap.sub len a0).exact (c - a0) := by
              cases cap <;> simp only [Cap.sub, Cap.top, Cap.exact] at * <;> (try subst hex) <;> refine ⟨by omega, by omega, ?_⟩ <;> first | rfl | trivial
            have hfit' : (off + a0) * sh.size + (c - a0) * sh.size ≤ r := by
              have : (off + a0) * sh.size + (c - a0) * sh.size = off * sh.size + c * sh.size := by
                rw [← Nat.add_mul, ← Nat.add_mul]; congr 1; omega
              omega
            rcases hu with rfl | ⟨rfl, x, rfl⟩
            · by_cases hcl : c = a0
              · subst hcl
                refine ⟨.slice (some ⟨B, o + off * sh.size, none⟩) (hh - c) (c - c), by simp [Instr.sliceAt, Instr.slice, run_underlying ht, h1, run_sizeA hn], ?_⟩
                simp only [Rel]
                refine ⟨B, o, r, hρ, .inr ⟨c - c, hsub.1, hsub.2.1, hsub.2.2, hfit', .inr ⟨by omega, o + off * sh.size, ?_⟩⟩⟩
                rw [show hh - c = 0 by omega, Nat.sub_self]
              · refine ⟨.slice (some ⟨B, o + (off * sh.size + a0 * n), none⟩) (hh - a0) (c - a0), by simp [Instr.sliceAt, Instr.slice, run_underlying ht, h1, run_sizeA hn, hcl, Addr.add_lit, Nat.add_assoc], ?_⟩
                simp only [Rel]
                refine ⟨B, o, r, hρ, .inr ⟨c - a0, hsub.1, hsub.2.1, hsub.2.2, hfit', .inl ?_⟩⟩
                rw [hsz', Nat.add_mul]
            · obtain rfl : len = 0 := by omega
              obtain rfl : hh = 0 := by omega
              obtain rfl : a0 = 0 := by omega
              refine ⟨.slice (some ⟨B, x, none⟩) 0 0, by simp [Instr.sliceAt, Instr.slice, run_underlying ht, h1, run_sizeA hn], ?_⟩
              simp only [Rel]
              exact ⟨B, o, r, hρ, .inr ⟨0, hsub.1, hsub.2.1, hsub.2.2, hfit', .inr ⟨rfl, x, rfl⟩⟩⟩
        · cases h
      · cases h
    · rename_i b off len cap n hn
      split at h
      · split at h
        · rename_i g a0 hh hb
          simp only [Option.some.injEq, Prod.mk.injEq] at h
          obtain ⟨rfl, rfl⟩ := h
          simp only [Rel] at hu
          obtain ⟨B, o, r, hρ, hle, rfl⟩ := hu
          obtain ⟨h1, h2, h3⟩ := run_boundsA (P := P) w (isSl := true) (cap := cap) hb (Nat.le_refl _) hle rl rh
          have ha : a0 = 0 := by
            unfold boundsA at hb
            split at hb
            · cases hb
            · simp only [boundOr, Option.some.injEq, Prod.mk.injEq] at hb
              exact hb.2.1.symm
          subst ha
          refine ⟨.slice (some ⟨B, o + off, none⟩) hh cap, ?_, ?_⟩
          · by_cases hc0 : cap = 0
            · subst hc0; simp [Instr.sliceAt, Instr.slice, run_underlying ht, h1, run_sizeA hn]
            · simp [Instr.sliceAt, Instr.slice, run_underlying ht, h1, run_sizeA hn, hc0, Addr.add]
          · simp only [Rel]
            exact ⟨B, o, r, hρ, h3, rfl⟩
        · cases h
      · cases h
    · cases h
  · cases h

/- ### indexes -/
theorem run_bounds3 {len cap top l h m : Nat} {lo : Option AV} {hi mx : AV} {lo' : Option Value} {hi' mx' : Value} (e : bounds3 lo hi mx top = some (true, l, h, m)) (ht : top ≤ cap)
    (rl : RelO ρ lo lo') (rh : Rel ρ hi hi') (rm : Rel ρ mx mx') : (Instr.sliceBounds true len cap lo' (some hi') (some mx')).run P w = .ok (l, h, m) w ∧ l ≤ h ∧ h ≤ m ∧ m ≤ top := by
  unfold bounds3 at e
  split at e
  · cases e
  · rename_i g m' em
    split at e
    · cases e
    · rename_i g' h' eh
      split at e
      · cases e
      · rename_i g'' l' el
        simp only [Option.some.injEq, Prod.mk.injEq, Bool.and_eq_true] at e
        obtain ⟨⟨rfl, rfl, rfl⟩, rfl, rfl, rfl⟩ := e
        obtain ⟨a1, a2⟩ := run_boundA' (P := P) w em ht rm .slice3Acap
        obtain ⟨b1, b2⟩ := run_boundA' (P := P) w eh (Nat.le_refl _) rh .slice3B
        cases lo with
        | none =>
          simp only [RelO] at rl; subst rl
          simp only [boundOr, Option.some.injEq, Prod.mk.injEq, true_and] at el; subst el
          exact ⟨by simp [Instr.sliceBounds, a1, b1], by omega, b2, a2⟩
        | some lv =>
          simp only [RelO] at rl; obtain ⟨lu, rfl, rl⟩ := rl
          obtain ⟨c1, c2⟩ := run_boundA' (P := P) w (show boundA lv h' = some (true, l') from el) (Nat.le_refl _) rl .slice3C
          exact ⟨by simp [Instr.sliceBounds, a1, b1, c1], c2, b2, a2⟩
theorem run_slice3S {t : TypeId} {x a : AV} {lo : Option AV} {hi mx : AV} {lo' : Option Value} {hi' mx' u : Value} (h : slice3S P t x lo hi mx = some (true, a)) (hu : Rel ρ x u)
    (rl : RelO ρ lo lo') (rh : Rel ρ hi hi') (rm : Rel ρ mx mx') :
    ∃ r, (Instr.sliceAt t u lo' (some hi') (some mx')).run P w = .ok r w ∧ Rel ρ a r := by
  unfold slice3S at h
  split at h
  · rename_i e ht
    split at h
    · rename_i nn sh b off len cap n hn
      split at h
      · rename_i hsz
        have hsz' := Nat.eq_of_beq_eq_true hsz
        split at h
        · rename_i g a0 hh m hb
          simp only [Option.some.injEq, Prod.mk.injEq] at h
          obtain ⟨rfl, rfl⟩ := h
          simp only [Rel] at hu
          obtain ⟨B, o, r, hρ, hu⟩ := hu
          rcases hu with ⟨rfl, rfl, ht0, hr0, rfl⟩ | ⟨c, hlt, htop, hex, hfit, hu⟩
          · rw [ht0] at hb
            obtain ⟨h1, h2, h3, h4⟩ := run_bounds3 (P := P) (len := 0) (cap := 0) w hb (Nat.le_refl _) rl rh rm
            obtain rfl : m = 0 := by omega
            obtain rfl : hh = 0 := by omega
            obtain rfl : a0 = 0 := by omega
            refine ⟨.slice none 0 0, by simp [Instr.sliceAt, Instr.slice, run_underlying ht, h1, run_sizeA hn], ?_⟩
            simp only [Rel]
            exact ⟨B, o, r, hρ, .inl (by simp [hr0, Cap.top])⟩
          · obtain ⟨h1, h2, h3, h4⟩ := run_bounds3 (P := P) (len := len) (cap := c) w hb htop rl rh rm
            have hfit' : (off + a0) * sh.size + (m - a0) * sh.size ≤ r := by
              have h5 : (off + a0) * sh.size + (m - a0) * sh.size = off * sh.size + m * sh.size := by
                rw [← Nat.add_mul, ← Nat.add_mul]; congr 1; omega
              have h6 : m * sh.size ≤ c * sh.size := Nat.mul_le_mul_right _ (by omega)
              omega
            rcases hu with rfl | ⟨rfl, x, rfl⟩
            · by_cases hcl : m = a0
              · subst hcl
                refine ⟨.slice (some ⟨B, o + off * sh.size, none⟩) (hh - m) (m - m), by simp [Instr.sliceAt, Instr.slice, run_underlying ht, h1, run_sizeA hn], ?_⟩
                simp only [Rel]
                refine ⟨B, o, r, hρ, .inr ⟨m - m, by simp only [Cap.top]; omega, by simp only [Cap.top]; omega, rfl, hfit', .inr ⟨by omega, o + off * sh.size, ?_⟩⟩⟩
                rw [show hh - m = 0 by omega, Nat.sub_self]
              · refine ⟨.slice (some ⟨B, o + (off * sh.size + a0 * n), none⟩) (hh - a0) (m - a0), by simp [Instr.sliceAt, Instr.slice, run_underlying ht, h1, run_sizeA hn, hcl, Addr.add_lit, Nat.add_assoc], ?_⟩
                simp only [Rel]
                refine ⟨B, o, r, hρ, .inr ⟨m - a0, by simp only [Cap.top]; omega, by simp only [Cap.top]; omega, rfl, hfit', .inl ?_⟩⟩
                rw [hsz', Nat.add_mul]
            · obtain rfl : len = 0 := by omega
              obtain rfl : m = 0 := by omega
              obtain rfl : hh = 0 := by omega
              obtain rfl : a0 = 0 := by omega
              refine ⟨.slice (some ⟨B, x, none⟩) 0 0, by simp [Instr.sliceAt, Instr.slice, run_underlying ht, h1, run_sizeA hn], ?_⟩
              simp only [Rel]
              exact ⟨B, o, r, hρ, .inr ⟨0, by simp [Cap.top], by simp [Cap.top], rfl, by simpa using hfit', .inr ⟨rfl, x, rfl⟩⟩⟩
        · cases h
      · cases h
    · cases h
  · cases h

theorem asInt_int (k : IntKind) (i : Int) : (asIntOf (.int k i)).run P w = .ok (k, i) w := rfl
theorem getD_of_lt {α : Type} (l : List α) (i : Nat) (d : α) (h : i < l.length) : l[i]? = some (l.getD i d) := by
  simp [List.getD, List.getElem?_eq_getElem h]
theorem run_indexAddrA {t : TypeId} {x ix a : AV} {u v : Value} (h : indexAddrA P t x ix = some (true, a)) (hu : Rel ρ x u) (hv : Rel ρ ix v) :
    ∃ r, (Instr.indexAt t u v).run P w = .ok r w ∧ Rel ρ a r := by
  unfold indexAddrA at h
  split at h
  · rename_i k i
    simp only [Rel] at hv; subst hv
    split at h
    · rename_i len e ht
      split at h
      · rename_i b off n hn
        simp only [Option.some.injEq, Prod.mk.injEq, Bool.and_eq_true, decide_eq_true_eq] at h
        obtain ⟨hb, rfl⟩ := h
        simp only [Rel] at hu
        obtain ⟨B, o, r, hρ, rfl⟩ := hu
        refine ⟨.pointer (some ⟨B, o + (off + i.toNat * n), none⟩), ?_, by simp only [Rel]; exact ⟨B, o, r, hρ, rfl⟩⟩
        simp [Instr.indexAt, asIntOf, run_underlying ht, Instr.sureAddr, hb, run_sizeA hn, Addr.add_lit, Nat.add_assoc]
      · cases h
    · rename_i e ht
      split at h
      · rename_i b off len cap n hn
        simp only [Option.some.injEq, Prod.mk.injEq, Bool.and_eq_true, decide_eq_true_eq] at h
        obtain ⟨hb, rfl⟩ := h
        simp only [Rel] at hu
        obtain ⟨B, o, r, hρ, _, rfl⟩ := hu
        refine ⟨.pointer (some ⟨B, o + (off + i.toNat * n), none⟩), ?_, by simp only [Rel]; exact ⟨B, o, r, hρ, rfl⟩⟩
        simp [Instr.indexAt, asIntOf, run_underlying ht, hb, run_sizeA hn, Addr.add_lit, Nat.add_assoc]
      · rename_i nn sh l n hn
        split at h
        · rename_i hsz
          have hsz' := Nat.eq_of_beq_eq_true hsz
          simp only [Option.some.injEq, Prod.mk.injEq, Bool.and_eq_true, decide_eq_true_eq] at h
          obtain ⟨hb, rfl⟩ := h
          simp only [Rel] at hu
          rcases hu with ⟨_, rfl, rfl⟩ | ⟨B, o, cap, rfl, hc, hx⟩ | ⟨rfl, ad, c, rfl⟩
          · simp at hb; omega
          · obtain ⟨vs, h1, h2⟩ := hx i.toNat _ (getD_of_lt l i.toNat .nul (by omega))
            refine ⟨.pointer (some ⟨B, o + i.toNat * n, none⟩), ?_, ?_⟩
            · simp [Instr.indexAt, asIntOf, run_underlying ht, hb, run_sizeA hn, Addr.add_lit]
            · simp only [Rel]
              rw [← hsz']
              exact ⟨B, _, vs, rfl, h1, h2⟩
          · simp at hb; omega
        · cases h
      · rename_i nn sh b off len cap n hn
        split at h
        · rename_i hsz
          have hsz' := Nat.eq_of_beq_eq_true hsz
          simp only [Option.some.injEq, Prod.mk.injEq, Bool.and_eq_true, decide_eq_true_eq] at h
          obtain ⟨hb, rfl⟩ := h
          simp only [Rel] at hu
          obtain ⟨B, o, r, hρ, ⟨_, rfl, _, _, rfl⟩ | ⟨c, hlt, htop, _, hfit, rfl | ⟨rfl, x, rfl⟩⟩⟩ := hu
          · omega
          · refine ⟨.pointer (some ⟨B, o + (off * sh.size + i.toNat * n), none⟩), ?_, ?_⟩
            · simp [Instr.indexAt, asIntOf, run_underlying ht, hb, run_sizeA hn, Addr.add_lit, Nat.add_assoc]
            · simp only [Rel]
              refine ⟨B, o, r, hρ, ?_⟩
              rw [hsz', Nat.add_mul, Nat.add_zero]
          · omega
        · cases h
      · cases h
    · cases h
  · cases h
theorem ones_get {k : IntKind} : ∀ (cs : List AV) (ds : List D) (l : List Value), onesD cs = some ds → allKind k cs = true → Rels ρ cs l → ∀ i, i < cs.length → l[i]? = some (.int k (ds.getD i .nul).asInt)
  | [], ds, l, h1, h2, h3, i, hi => by simp at hi
  | c :: cs, ds, l, h1, h2, h3, i, hi => by
    cases c with
    | int k' n =>
      simp only [onesD] at h1
      split at h1
      · rename_i r hr
        cases h1
        simp only [allKind, Bool.and_eq_true, decide_eq_true_eq] at h2
        obtain ⟨rfl, h2⟩ := h2
        simp only [Rels, Rel] at h3
        obtain ⟨v, vs, rfl, rfl, h3⟩ := h3
        cases i with
        | zero => rfl
        | succ i => simpa using ones_get cs r vs hr h2 h3 i (by simpa using hi)
      · cases h1
    | _ => simp [allKind] at h2
theorem run_indexA {t : TypeId} {x ix a : AV} {u v : Value} (h : indexA P t x ix = some (true, a)) (hu : Rel ρ x u) (hv : Rel ρ ix v) :
    ∃ r, (Instr.index t u v).run P w = .ok r w ∧ Rel ρ a r := by
  unfold indexA at h
  split at h
  · rename_i k i
    simp only [Rel] at hv; subst hv
    split at h
    · rename_i len e cs ht
      split at h
      · rename_i k0 he
        split at h
        · rename_i ds hk hs hg hd
          simp only [Option.some.injEq, Prod.mk.injEq, Bool.and_eq_true, decide_eq_true_eq] at h hk
          obtain ⟨hb, rfl⟩ := h
          have hlen := Nat.eq_of_beq_eq_true hk.2
          simp only [Rel] at hu
          obtain ⟨l, rfl, hl⟩ := hu
          have hget := ones_get (ρ := ρ) cs ds l hd hk.1 hl i.toNat (by omega)
          refine ⟨_, ?_, show Rel ρ _ (.int k0 (ds.getD i.toNat .nul).asInt) by simp [Rel]⟩
          have hb' : 0 ≤ i ∧ i < (len : Int) := hb
          simp [Instr.index, asIntOf, run_underlying ht, hb', run_sizeA hs, part, run_isAggA hg, hget]
        · cases h
      · cases h
    · rename_i s ht
      simp only [Option.some.injEq, Prod.mk.injEq, Bool.and_eq_true, decide_eq_true_eq] at h
      obtain ⟨hi, rfl⟩ := h
      have e := hu.str_inv
      subst e
      refine ⟨.int .u8 (s.getD i.toNat 0).toNat, ?_, by simp [Rel]⟩
      have hlt : i.toNat < s.length := by omega
      have hg : (ByteArray.mk s.toArray)[i.toNat]? = some (s.getD i.toNat 0) := by
        have hs : i.toNat < (ByteArray.mk s.toArray).size := by simpa [ByteArray.size] using hlt
        rw [getElem?_pos (ByteArray.mk s.toArray) i.toNat hs]
        have : s.getD i.toNat 0 = s[i.toNat] := by simp [List.getD, List.getElem?_eq_getElem hlt]
        rw [this]
        simp [ByteArray.getElem_eq_getElem_data]
      simp [Instr.index, asIntOf, run_underlying ht, hi.1, hg]
    · cases h
  · cases h

/- ### fields -/
theorem RelShs.fld {F : Nat → Nat → Option Value} : ∀ (fs : List Sh) (d : D) (i : Nat) (vs : List Value) (f : Nat) (s : Sh), RelShs F fs d i vs → fs[f]? = some s → RelSh F s (d.fld (i + f)) ((vs.drop (shOff fs f)).take s.size)
  | [], d, i, vs, f, s, h, e => by simp at e
  | g :: fs, d, i, vs, f, s, h, e => by
    simp only [RelShs] at h
    obtain ⟨a, b, rfl, h1, h2⟩ := h
    have hl := RelSh.length h1
    cases f with
    | zero =>
      simp at e; subst e
      simp only [shOff, List.drop_zero, Nat.add_zero]
      rw [← hl, List.take_left]
      exact h1
    | succ f =>
      simp at e
      simp only [shOff]
      rw [List.drop_append, hl, show g.size + shOff fs f - g.size = shOff fs f by omega, List.drop_of_length_le (l := a) (by omega), List.nil_append]
      have := RelShs.fld fs d (i + 1) b f s h2 e
      rwa [show i + 1 + f = i + (f + 1) by omega] at this
theorem run_fieldAddrA {t : TypeId} {x a : AV} {f : Nat} {u : Value} (h : fieldAddrA P t x f = some a) (hu : Rel ρ x u) :
    ∃ r, (Instr.fieldAt t u f).run P w = .ok r w ∧ Rel ρ a r := by
  unfold fieldAddrA at h
  split at h
  · rename_i fs b off ht
    split at h
    · cases h
    · rename_i fd hfd
      split at h
      · cases h
      · rename_i n hn
        split at h
        · cases h
        · rename_i h0
          cases h
          have h0' : ¬ n = 0 := fun e => by subst e; cases h0
          simp only [Rel] at hu
          obtain ⟨B, o, r, hρ, rfl⟩ := hu
          refine ⟨.pointer (some ⟨B, o + (off + fd.offset), none⟩), ?_, by simp only [Rel]; exact ⟨B, o, r, hρ, rfl⟩⟩
          simp [Instr.fieldAt, run_underlying ht, hfd, Instr.sureAddr, fieldPlace, run_sizeA hn, h0', Addr.add_lit, Nat.add_assoc]
  · rename_i fs sh b i fo ht
    split at h
    · cases h
    · rename_i fd hfd
      split at h
      · cases h
      · rename_i n hn
        split at h
        · cases h
        · rename_i h0
          cases h
          have h0' : ¬ n = 0 := fun e => by subst e; cases h0
          simp only [Rel] at hu
          obtain ⟨B, o, r, hρ, rfl⟩ := hu
          refine ⟨.pointer (some ⟨B, o + (i * sh.size + (fo + fd.offset)), none⟩), ?_, by simp only [Rel]; exact ⟨B, o, r, hρ, rfl⟩⟩
          simp [Instr.fieldAt, run_underlying ht, hfd, Instr.sureAddr, fieldPlace, run_sizeA hn, h0', Addr.add_lit, Nat.add_assoc]
  · rename_i fs shs d ht
    split at h
    · rename_i fd s hfd hs
      split at h
      · cases h
      · rename_i n hn
        split at h
        · cases h
        · rename_i h0
          cases h
          simp only [Bool.or_eq_false_iff, Bool.not_eq_false'] at h0
          have h0' : ¬ n = 0 := fun e => by subst e; cases h0.1
          have hoff := Nat.eq_of_beq_eq_true h0.2
          simp only [Rel] at hu
          obtain ⟨B, o, vs, rfl, h1, h2⟩ := hu
          simp only [RelSh] at h1
          have h3 := RelShs.fld shs d 0 vs f s h1 hs
          rw [Nat.zero_add] at h3
          refine ⟨.pointer (some ⟨B, o + fd.offset, none⟩), ?_, ?_⟩
          · simp [Instr.fieldAt, run_underlying ht, hfd, Instr.sureAddr, fieldPlace, run_sizeA hn, h0', Addr.add_lit]
          · simp only [Rel]
            refine ⟨B, _, _, rfl, h3, fun j u hj => ?_⟩
            rw [hoff] at hj
            rw [List.getElem?_take] at hj
            split at hj
            · rw [List.getElem?_drop] at hj
              have := h2 _ u hj
              rwa [← Nat.add_assoc] at this
            · cases hj
    · cases h
  · cases h
theorem run_fieldA {t : TypeId} {x a : AV} {f : Nat} {u : Value} (h : fieldA P t x f = some a) (hu : Rel ρ x u) :
    ∃ r, (Instr.field t u f).run P w = .ok r w ∧ Rel ρ a r := by
  unfold fieldA at h
  split at h
  · rename_i fs cs ht
    split at h
    · cases h
    · rename_i fd hfd
      simp only [Rel] at hu
      obtain ⟨l, rfl, hl⟩ := hu
      obtain ⟨r, hr, hrel⟩ := run_part h hl w
      exact ⟨r, by simp [Instr.field, run_underlying ht, hfd, asAgg, hr], hrel⟩
  · cases h
theorem run_convA {src dst : TypeId} {x a : AV} {u : Value} (h : convA P src dst x = some a) (hu : Rel ρ x u) :
    ∃ r, (convert src dst u).run P w = .ok r w ∧ Rel ρ a r := by
  unfold convA at h
  split at h
  · rename_i d k k' n hs hd
    cases h
    simp only [Rel] at hu; subst hu
    exact ⟨_, by simp [convert, run_underlying hs, run_underlying hd, Conv.intToInt]; rfl, by simp [Rel]⟩
  · rename_i d s hs hd
    cases h
    have e := hu.str_inv
    subst e
    refine ⟨_, ?_, by simp [Rel]; rfl⟩
    cases d <;> simp [convert, run_underlying hs, run_underlying hd]
  · cases h
theorem run_minmaxA {b : Bool} {l : List AV} {a : AV} {vs : List Value} (h : minmaxA b l = some a) (hu : Rels ρ l vs) (ts : Array TypeId) (t : TypeId) :
    ∃ r, (if b then Builtin.max_ ts t vs.toArray else Builtin.min_ ts t vs.toArray).run P w = .ok r w ∧ Rel ρ a r := by
  unfold minmaxA at h
  split at h
  · cases h
    simp only [Rels, Rel] at hu
    obtain ⟨_, _, rfl, rfl, _, _, rfl, rfl, rfl⟩ := hu
    cases b
    · exact ⟨_, by simp [Builtin.min_, Builtin.min2, List.foldlM]; rfl, by simp [Rel]⟩
    · exact ⟨_, by simp [Builtin.max_, Builtin.max2, List.foldlM]; rfl, by simp [Rel]⟩
  · cases h
    simp only [Rels, Rel] at hu
    obtain ⟨_, _, rfl, rfl, _, _, rfl, rfl, _, _, rfl, rfl, rfl⟩ := hu
    cases b
    · exact ⟨_, by simp [Builtin.min_, Builtin.min2, List.foldlM]; rfl, by simp [Rel]⟩
    · exact ⟨_, by simp [Builtin.max_, Builtin.max2, List.foldlM]; rfl, by simp [Rel]⟩
  · cases h


/- ### operands -/
def RelT (ρ : Rho) (a : AV) (v : Value) : Prop := a = .any ∨ Rel ρ a v
theorem RelT.mono {ρ ρ' : Rho} {a : AV} {v : Value} (h : RelT ρ a v) (hle : ρ.le ρ') : RelT ρ' a v := h.imp id (fun h => h.mono hle)
/-- The slots. -/
def TR (ρ : Rho) (tmps : List AV) (arr : Array Value) : Prop := tmps.length = arr.size ∧ ∀ t : Nat, RelT ρ (tmps.getD t undefA) (arr.getD t undef)
theorem TR.mono {ρ ρ' : Rho} {tmps : List AV} {arr : Array Value} (h : TR ρ tmps arr) (hle : ρ.le ρ') : TR ρ' tmps arr := ⟨h.1, fun t => (h.2 t).mono hle⟩
theorem known_some {v u : AV} (h : v.known = some u) : u = v ∧ v ≠ .any := by
  unfold AV.known at h
  split at h
  · cases h
  · rename_i hne; cases h; exact ⟨rfl, fun e => hne e⟩
variable {tmps : List AV} {a : Act}
theorem ev_sound (h : TR ρ tmps a.tmps) {x : Operand} {v : AV} (e : evA tmps x = some v) : Rel ρ v (a.eval x) := by
  cases x with
  | tmp t =>
    simp only [evA] at e
    obtain ⟨rfl, hne⟩ := known_some e
    rcases h.2 t with h1 | h1
    · exact absurd h1 hne
    · exact h1
  | const c => exact rel_ofVal _ _ e
  | global g => simp only [evA] at e; cases e
  | func f => simp only [evA] at e; cases e; simp [Rel, Rels, Act.eval]
theorem evs_sound (h : TR ρ tmps a.tmps) : ∀ {xs : List Operand} {vs : List AV}, evsA tmps xs = some vs → Rels ρ vs (xs.map a.eval)
  | [], vs, e => by simp only [evsA] at e; cases e; exact Rels.nil
  | x :: xs, vs, e => by
    simp only [evsA] at e
    split at e
    · cases e
    · rename_i v hv
      split at e
      · cases e
      · rename_i l hl
        cases e
        exact Rels.cons (ev_sound h hv) (evs_sound h hl)
theorem evOpt_sound (h : TR ρ tmps a.tmps) {x : Option Operand} {v : Option AV} (e : evOptA tmps x = some v) : RelO ρ v (x.map a.eval) := by
  cases x with
  | none => simp only [evOptA] at e; cases e; rfl
  | some x =>
    simp only [evOptA] at e
    split at e
    · cases e
    · rename_i u hu
      cases e
      exact ⟨_, rfl, ev_sound h hu⟩
theorem evParts_sound (h : TR ρ tmps a.tmps) : ∀ {xs : List (Nat × Operand)} {vs : List (Nat × AV)}, evPartsA tmps xs = some vs → RelParts ρ vs (xs.map fun (i, x) => (i, a.eval x))
  | [], vs, e => by simp only [evPartsA] at e; cases e; rfl
  | (i, x) :: xs, vs, e => by
    simp only [evPartsA] at e
    split at e
    · cases e
    · rename_i v hv
      split at e
      · cases e
      · rename_i l hl
        cases e
        exact ⟨_, _, rfl, ev_sound h hv, evParts_sound h hl⟩
theorem parts_toArray (xs : Array (Nat × Operand)) (f : Operand → Value) : (xs.map fun (i, x) => (i, f x)) = (xs.toList.map fun (i, x) => (i, f x)).toArray := by
  apply Array.ext'; simp

theorem lift_some {x : Option AV} {v : AV} (e : lift x = some (true, v)) : x = some v := by
  cases x <;> simp [lift] at e
  rw [e]
theorem pure_sound (h : TR ρ tmps a.tmps) {o : Oper} {v : AV} (e : pureA P tmps o.op = some (true, v)) : ∃ u, (execOp a.eval o).run P w = .ok (.value u) w ∧ Rel ρ v u := by
  obtain ⟨dst, op, type, pos, after, guard⟩ := o
  simp only at e
  unfold pureA at e
  split at e
  · exact ⟨_, rfl, ev_sound h (lift_some e)⟩
  · exact ⟨_, rfl, ev_sound h (lift_some e)⟩
  · rename_i c x y
    split at e
    · rename_i b0 hc
      have := ev_sound h hc
      simp only [Rel] at this
      cases b0
      · exact ⟨_, by simp [execOp, this, asBool], ev_sound h (lift_some e)⟩
      · exact ⟨_, by simp [execOp, this, asBool], ev_sound h (lift_some e)⟩
    · cases e
  · rename_i t parts
    split at e
    · rename_i l hl
      obtain ⟨r, hr, hrel⟩ := run_buildA w (lift_some e) (evParts_sound h hl)
      refine ⟨r, ?_, hrel⟩
      simp only [execOp, parts_toArray, Sem.run_bind, hr, Result.andThen_ok, Sem.run_pure]
    · cases e
  · rename_i x
    split at e
    · rename_i p hp
      obtain ⟨b, off⟩ := p
      cases e
      have := ev_sound h hp
      have h' := this
      simp only [Rel] at this
      obtain ⟨B, o, r, hρ, hx⟩ := this
      exact ⟨a.eval x, by simp [execOp, hx], h'⟩
    · rename_i f first caps hp
      cases e
      have := ev_sound h hp
      have h' := this
      simp only [Rel] at this
      obtain ⟨y, z, hx, _, _⟩ := this
      exact ⟨a.eval x, by simp [execOp, hx], h'⟩
    · cases e
  · rename_i op t x y yt
    split at e
    · rename_i u v' hu hv
      obtain ⟨r, hr, hrel⟩ := run_binA w e (ev_sound h hu) (ev_sound h hv) x y
      refine ⟨r, ?_, hrel⟩
      simp only [execOp]
      rw [Sem.run_bind, hr]
      rfl
    · cases e
  · rename_i op t x
    split at e
    · rename_i u hu
      obtain ⟨r, hr, hrel⟩ := run_unA (P := P) w e (ev_sound h hu)
      exact ⟨r, by simp [execOp, hr], hrel⟩
    · cases e
  · rename_i src dst' x
    split at e
    · rename_i u hu
      obtain ⟨r, hr, hrel⟩ := run_convA w (lift_some e) (ev_sound h hu)
      exact ⟨r, by simp [execOp, hr], hrel⟩
    · cases e
  · rename_i f first captured
    split at e
    · rename_i l c hl hc
      cases e
      refine ⟨_, by simp [execOp, Instr.makeFunc]; rfl, ?_⟩
      simp only [Rel]
      exact ⟨first.toList.map a.eval, captured.toList.map a.eval, by congr 1 <;> (apply Array.ext'; simp), evs_sound h hl, evs_sound h hc⟩
    · cases e
  · rename_i t x lo hi
    split at e
    · rename_i u l h' hu hl hh
      obtain ⟨r, hr, hrel⟩ := run_sliceS w e (ev_sound h hu) (evOpt_sound h hl) (evOpt_sound h hh)
      exact ⟨r, by simp [execOp, hr], hrel⟩
    · cases e
  · rename_i t x lo hi mx
    split at e
    · rename_i u l h' m hu hl hh hm
      obtain ⟨r, hr, hrel⟩ := run_slice3S w e (ev_sound h hu) (evOpt_sound h hl) (ev_sound h hh) (ev_sound h hm)
      exact ⟨r, by simp [execOp, hr], hrel⟩
    · cases e
  · rename_i t x f
    split at e
    · rename_i u hu
      obtain ⟨r, hr, hrel⟩ := run_fieldAddrA w (lift_some e) (ev_sound h hu)
      exact ⟨r, by simp [execOp, hr], hrel⟩
    · cases e
  · rename_i t x f
    split at e
    · rename_i u hu
      obtain ⟨r, hr, hrel⟩ := run_fieldA w (lift_some e) (ev_sound h hu)
      exact ⟨r, by simp [execOp, hr], hrel⟩
    · cases e
  · rename_i t x ix
    split at e
    · rename_i u i hu hi
      obtain ⟨r, hr, hrel⟩ := run_indexAddrA w e (ev_sound h hu) (ev_sound h hi)
      exact ⟨r, by simp [execOp, hr], hrel⟩
    · cases e
  · rename_i t x ix
    split at e
    · rename_i u i hu hi
      obtain ⟨r, hr, hrel⟩ := run_indexA w e (ev_sound h hu) (ev_sound h hi)
      exact ⟨r, by simp [execOp, hr], hrel⟩
    · cases e
  · rename_i x i
    split at e
    · rename_i vs hx
      have := ev_sound h hx
      simp only [Rel] at this
      obtain ⟨l, hl, hrel⟩ := this
      obtain ⟨r, hr, hrr⟩ := hrel.get i v (lift_some e)
      exact ⟨r, by simp [execOp, Instr.extract, hl, hr], hrr⟩
    · cases e
  · rename_i x t
    have hlen : ∀ (n : Nat), (Builtin.len_ #[t] type #[a.eval x]).run P w = .ok (goInt n) w →
        (execOp a.eval { dst := dst, op := .call { callee := .builtin .len, args := #[x], argTypes := #[t] }, type := type, pos := pos, after := after, guard := guard }).run P w = .ok (.value (.int .i64 n)) w := by
      intro n hn
      simp [execOp, resolve, invoke, builtin, hn, goInt]
    split at e
    · rename_i s hx ht
      cases e
      have := ev_sound h hx
      have hx' := this.str_inv
      refine ⟨.int .i64 s.length, hlen _ ?_, by simp [Rel]⟩
      rw [hx']
      simp [Builtin.len_, run_underlying ht, size_mk]
    · rename_i e0 hx ht
      cases e
      have hx' := ev_sound h hx
      simp only [Rel] at hx'
      refine ⟨.int .i64 0, hlen 0 ?_, by simp [Rel]⟩
      rw [hx']
      simp [Builtin.len_, run_underlying ht]
    · rename_i b0 o0 n c e0 hx ht
      cases e
      have hx' := ev_sound h hx
      simp only [Rel] at hx'
      obtain ⟨B, o, r, _, _, hx'⟩ := hx'
      refine ⟨.int .i64 n, hlen _ ?_, by simp [Rel]⟩
      rw [hx']
      simp [Builtin.len_, run_underlying ht]
    · rename_i nn e1 l e0 hx ht
      cases e
      have hx' := ev_sound h hx
      simp only [Rel] at hx'
      obtain ⟨q, c', hx'⟩ := hx'.form
      refine ⟨.int .i64 l.length, hlen _ ?_, by simp [Rel]⟩
      rw [hx']
      simp [Builtin.len_, run_underlying ht]
    · rename_i nn e1 b0 o0 n c e0 hx ht
      cases e
      obtain ⟨q, c', hx'⟩ := (ev_sound h hx).tsl_form
      refine ⟨.int .i64 n, hlen _ ?_, by simp [Rel]⟩
      rw [hx']
      simp [Builtin.len_, run_underlying ht]
    · rename_i av n e0 hx ht
      cases e
      refine ⟨.int .i64 n, hlen _ ?_, by simp [Rel]⟩
      simp [Builtin.len_, run_underlying ht]
    · cases e
  · rename_i x t
    split at e
    · rename_i b0 o0 n c e0 hx ht
      cases e
      have hx' := ev_sound h hx
      simp only [Rel] at hx'
      obtain ⟨B, o, r, _, _, hx'⟩ := hx'
      refine ⟨.int .i64 c, ?_, by simp [Rel]⟩
      simp [execOp, resolve, invoke, builtin, hx', Builtin.cap_, run_underlying ht, goInt]
    · rename_i e1 b0 o0 n c e0 hx ht
      cases e
      have hx' : ∃ q n', a.eval x = .slice q n' c := by
        have := ev_sound h hx
        simp only [Rel] at this
        obtain ⟨B, o, r, _, ⟨hn, _⟩ | ⟨c', _, _, hex, _, h5 | ⟨h5, y, h6⟩⟩⟩ := this
        · cases hn
        · simp only [Cap.exact] at hex; subst hex; exact ⟨_, _, h5⟩
        · simp only [Cap.exact] at hex; subst hex; subst h5; exact ⟨_, _, h6⟩
      obtain ⟨q, n', hx'⟩ := hx'
      refine ⟨.int .i64 c, ?_, by simp [Rel]⟩
      simp [execOp, resolve, invoke, builtin, hx', Builtin.cap_, run_underlying ht, goInt]
    · cases e
  · rename_i args ats
    split at e
    · rename_i l hl
      obtain ⟨r, hr, hrel⟩ := run_minmaxA w (lift_some e) (evs_sound h hl) ats type
      refine ⟨r, ?_, hrel⟩
      simp only [if_true] at hr
      simp only [execOp, resolve, Sem.run_bind, Sem.run_pure, Result.andThen_ok, invoke, builtin]
      rw [show args.map a.eval = (args.toList.map a.eval).toArray by apply Array.ext'; simp]
      rw [hr]; rfl
    · cases e
  · rename_i args ats
    split at e
    · rename_i l hl
      obtain ⟨r, hr, hrel⟩ := run_minmaxA w (lift_some e) (evs_sound h hl) ats type
      refine ⟨r, ?_, hrel⟩
      simp only [Bool.false_eq_true, if_false] at hr
      simp only [execOp, resolve, Sem.run_bind, Sem.run_pure, Result.andThen_ok, invoke, builtin]
      rw [show args.map a.eval = (args.toList.map a.eval).toArray by apply Array.ext'; simp]
      rw [hr]; rfl
    · cases e
  · cases e
end
end Go.Sy
