/- The relation between the symbolic machine's values and the model's: first laws. -/
import Derived.Test.YtkfdfenaaidkkaaSyA
import Derived.Tactics
import Derived.Below
import Derived.ChangeKeysEq
import Derived.Laws.BytesString
import Derived.Laws.AppendOwn
set_option linter.unusedVariables false
set_option linter.unusedSimpArgs false
namespace Go.Sy
open Go

/- ### Shapes -/
mutual
theorem Sh.beq_eq : ∀ (a b : Sh), a.beq b = true → a = b
  | .bool, b, h => by cases b <;> simp [Sh.beq] at h; rfl
  | .int k, b, h => by cases b <;> simp [Sh.beq] at h; rw [h]
  | .str, b, h => by cases b <;> simp [Sh.beq] at h; rfl
  | .slice e, b, h => by cases b <;> simp [Sh.beq] at h; rw [Sh.beq_eq e _ h]
  | .struct fs, b, h => by cases b <;> simp [Sh.beq] at h; rw [Sh.beqs_eq fs _ h]
theorem Sh.beqs_eq : ∀ (a b : List Sh), Sh.beqs a b = true → a = b
  | [], b, h => by cases b <;> simp [Sh.beqs] at h; rfl
  | x :: a, b, h => by
    cases b with
    | nil => simp [Sh.beqs] at h
    | cons y b =>
      simp only [Sh.beqs, Bool.and_eq_true] at h
      rw [Sh.beq_eq x y h.1, Sh.beqs_eq a b h.2]
end

/- ### What stands for what -/
/-- Where the blocks are: block, offset, room; what is in memory that nobody writes any more. -/
structure Rho where
  at_ : Nat → Option (Nat × Nat × Nat)
  fz : Nat → Nat → Option Value
instance : CoeFun Rho (fun _ => Nat → Option (Nat × Nat × Nat)) := ⟨Rho.at_⟩
def Rho.le (ρ ρ' : Rho) : Prop := (∀ i x, ρ i = some x → ρ' i = some x) ∧ ∀ B o v, ρ.fz B o = some v → ρ'.fz B o = some v
theorem Rho.le.rfl {ρ : Rho} : ρ.le ρ := ⟨fun _ _ e => e, fun _ _ _ e => e⟩
theorem Rho.le.trans {ρ ρ' ρ'' : Rho} (h : ρ.le ρ') (k : ρ'.le ρ'') : ρ.le ρ'' := ⟨fun i x e => k.1 i x (h.1 i x e), fun B o v e => k.2 B o v (h.2 B o v e)⟩
def litOk : Value → Bool
  | .nilIface | .map none => true
  | _ => false

/-- A slice of memory that nobody writes: its elements, one by one. -/
def FzR (F : Nat → Nat → Option Value) (sz : Nat) (R : D → List Value → Prop) (nn : Bool) (l : List D) (v : Value) : Prop :=
  (nn = false ∧ l = [] ∧ v = .slice none 0 0) ∨ ∃ B o cap, v = .slice (some ⟨B, o, none⟩) l.length cap ∧ l.length ≤ cap ∧
    ∀ (i : Nat) (d : D), l[i]? = some d → ∃ vs, R d vs ∧ ∀ (j : Nat) (u : Value), vs[j]? = some u → F B (o + i * sz + j) = some u
mutual
/-- Data of a shape, and its cells. -/
def RelSh (F : Nat → Nat → Option Value) : Sh → D → List Value → Prop
  | .bool, d, vs => vs = [.bool d.asBool]
  | .int k, d, vs => vs = [.int k d.asInt]
  | .str, d, vs => vs = [.string ⟨d.asStr.toArray⟩]
  | .slice e, d, vs => ∃ v, vs = [v] ∧ FzR F e.size (fun d vs => RelSh F e d vs) false d.els v
  | .struct fs, d, vs => RelShs F fs d 0 vs
def RelShs (F : Nat → Nat → Option Value) : List Sh → D → Nat → List Value → Prop
  | [], _, _, vs => vs = []
  | f :: fs, d, i, vs => ∃ a b, vs = a ++ b ∧ RelSh F f (d.fld i) a ∧ RelShs F fs d (i + 1) b
end
mutual
theorem RelSh.length {F : Nat → Nat → Option Value} : ∀ {sh : Sh} {d : D} {vs : List Value}, RelSh F sh d vs → vs.length = sh.size
  | .bool, d, vs, h => by simp only [RelSh] at h; simp [h, Sh.size]
  | .int k, d, vs, h => by simp only [RelSh] at h; simp [h, Sh.size]
  | .str, d, vs, h => by simp only [RelSh] at h; simp [h, Sh.size]
  | .slice e, d, vs, h => by simp only [RelSh] at h; obtain ⟨v, rfl, _⟩ := h; simp [Sh.size]
  | .struct fs, d, vs, h => by simp only [RelSh] at h; simp only [Sh.size]; exact RelShs.length h
theorem RelShs.length {F : Nat → Nat → Option Value} : ∀ {fs : List Sh} {d : D} {i : Nat} {vs : List Value}, RelShs F fs d i vs → vs.length = Sh.sizes fs
  | [], d, i, vs, h => by simp only [RelShs] at h; simp [h, Sh.sizes]
  | f :: fs, d, i, vs, h => by
    simp only [RelShs] at h
    obtain ⟨a, b, rfl, h1, h2⟩ := h
    simp only [List.length_append, Sh.sizes, RelSh.length h1, RelShs.length h2]
end
theorem FzR.mono {F F' : Nat → Nat → Option Value} {sz : Nat} {R R' : D → List Value → Prop} {nn : Bool} {l : List D} {v : Value} (hF : ∀ B o v, F B o = some v → F' B o = some v) (hR : ∀ d vs, R d vs → R' d vs) (h : FzR F sz R nn l v) : FzR F' sz R' nn l v := by
  rcases h with h | ⟨B, o, cap, h1, h2, h3⟩
  · exact .inl h
  · refine .inr ⟨B, o, cap, h1, h2, fun i d hd => ?_⟩
    obtain ⟨vs, k1, k2⟩ := h3 i d hd
    exact ⟨vs, hR d vs k1, fun j u hu => hF _ _ _ (k2 j u hu)⟩
mutual
theorem RelSh.mono {F F' : Nat → Nat → Option Value} (hF : ∀ B o v, F B o = some v → F' B o = some v) : ∀ (sh : Sh) (d : D) (vs : List Value), RelSh F sh d vs → RelSh F' sh d vs
  | .bool, d, vs, h => by simpa only [RelSh] using h
  | .int k, d, vs, h => by simpa only [RelSh] using h
  | .str, d, vs, h => by simpa only [RelSh] using h
  | .slice e, d, vs, h => by
    simp only [RelSh] at h ⊢
    obtain ⟨v, h1, h2⟩ := h
    exact ⟨v, h1, h2.mono hF (fun d vs => RelSh.mono hF e d vs)⟩
  | .struct fs, d, vs, h => by simp only [RelSh] at h ⊢; exact RelShs.mono hF fs d 0 vs h
theorem RelShs.mono {F F' : Nat → Nat → Option Value} (hF : ∀ B o v, F B o = some v → F' B o = some v) : ∀ (fs : List Sh) (d : D) (i : Nat) (vs : List Value), RelShs F fs d i vs → RelShs F' fs d i vs
  | [], d, i, vs, h => by simpa only [RelShs] using h
  | f :: fs, d, i, vs, h => by
    simp only [RelShs] at h ⊢
    obtain ⟨a, b, h1, h2, h3⟩ := h
    exact ⟨a, b, h1, RelSh.mono hF f _ _ h2, RelShs.mono hF fs _ _ _ h3⟩
end

def Cap.exact : Cap → Nat → Prop
  | .known k, c => c = k
  | _, _ => True
mutual
def Rel (ρ : Rho) : AV → Value → Prop
  | .any, _ => False
  | .bool b, v => v = .bool b
  | .int k n, v => v = .int k n
  | .str s, v => v = .string ⟨s.toArray⟩
  | .ptr none, v => v = .pointer none
  | .ptr (some (b, off)), v => ∃ B o r, ρ b = some (B, o, r) ∧ v = .pointer (some ⟨B, o + off, none⟩)
  | .nilSl, v => v = .slice none 0 0
  | .sl b off len cap, v => ∃ B o r, ρ b = some (B, o, r) ∧ len ≤ cap ∧ v = .slice (some ⟨B, o + off, none⟩) len cap
  | .fn f first caps, v => ∃ x y, v = .func f x.toArray y.toArray ∧ Rels ρ first x ∧ Rels ρ caps y
  | .nilFn, v => v = .nilFunc
  | .lit u, v => v = u ∧ litOk u = true
  | .agg cs, v => ∃ l, v = .agg l.toArray ∧ Rels ρ cs l
  | .tup vs, v => ∃ l, v = .tuple l.toArray ∧ Rels ρ vs l
  | .fz nn e l, v => FzR ρ.fz e.size (RelSh ρ.fz e) nn l v
  | .fref sh d, v => ∃ B o vs, v = .pointer (some ⟨B, o, none⟩) ∧ RelSh ρ.fz sh d vs ∧ ∀ (j : Nat) (u : Value), vs[j]? = some u → ρ.fz B (o + j) = some u
  | .tsl nn e b off len cap, v => ∃ B o r, ρ b = some (B, o, r) ∧ ((nn = false ∧ len = 0 ∧ cap.top len = 0 ∧ r = 0 ∧ v = .slice none 0 0) ∨
      ∃ c, len ≤ cap.top len ∧ cap.top len ≤ c ∧ cap.exact c ∧ off * e.size + c * e.size ≤ r ∧
        (v = .slice (some ⟨B, o + off * e.size, none⟩) len c ∨ (c = 0 ∧ ∃ x, v = .slice (some ⟨B, x, none⟩) 0 0)))
  | .eptr e b i fo, v => ∃ B o r, ρ b = some (B, o, r) ∧ v = .pointer (some ⟨B, o + (i * e.size + fo), none⟩)
def Rels (ρ : Rho) : List AV → List Value → Prop
  | [], l => l = []
  | a :: as, l => ∃ v vs, l = v :: vs ∧ Rel ρ a v ∧ Rels ρ as vs
end

theorem Rels.nil {ρ : Rho} : Rels ρ [] [] := by simp [Rels]
theorem Rels.cons {ρ : Rho} {a : AV} {v : Value} {as : List AV} {vs : List Value} (h : Rel ρ a v) (hs : Rels ρ as vs) : Rels ρ (a :: as) (v :: vs) := by
  simp only [Rels]; exact ⟨v, vs, rfl, h, hs⟩
theorem Rels.length {ρ : Rho} : ∀ {as : List AV} {vs : List Value}, Rels ρ as vs → vs.length = as.length
  | [], vs, h => by simp [Rels] at h; simp [h]
  | a :: as, vs, h => by
    simp only [Rels] at h
    obtain ⟨v, vs', rfl, _, h'⟩ := h
    simp [Rels.length h']
theorem Rels.get {ρ : Rho} : ∀ {as : List AV} {vs : List Value}, Rels ρ as vs → ∀ (i : Nat) (a : AV), as[i]? = some a → ∃ v, vs[i]? = some v ∧ Rel ρ a v
  | [], vs, h, i, a, e => by simp at e
  | x :: as, vs, h, i, a, e => by
    simp only [Rels] at h
    obtain ⟨v, vs', rfl, h1, h'⟩ := h
    cases i with
    | zero => simp at e; subst e; exact ⟨v, by simp, h1⟩
    | succ i => simp at e; simpa using Rels.get h' i a e
theorem Rels.of_get {ρ : Rho} : ∀ {as : List AV} {vs : List Value}, vs.length = as.length → (∀ (i : Nat) (a : AV) (v : Value), as[i]? = some a → vs[i]? = some v → Rel ρ a v) → Rels ρ as vs
  | [], vs, hl, h => by simp at hl; subst hl; exact Rels.nil
  | x :: as, [], hl, h => by simp at hl
  | x :: as, v :: vs, hl, h => by
    refine Rels.cons (h 0 x v (by simp) (by simp)) (Rels.of_get (by simpa using hl) (fun i a u e1 e2 => h (i + 1) a u (by simpa using e1) (by simpa using e2)))
theorem Rels.append {ρ : Rho} {as bs : List AV} {vs us : List Value} (h : Rels ρ as vs) (k : Rels ρ bs us) : Rels ρ (as ++ bs) (vs ++ us) := by
  induction as generalizing vs with
  | nil => simp [Rels] at h; subst h; simpa using k
  | cons a as ih =>
    simp only [Rels] at h
    obtain ⟨v, vs', rfl, h1, h'⟩ := h
    exact Rels.cons h1 (ih h')
theorem Rels.take {ρ : Rho} {as : List AV} {vs : List Value} (h : Rels ρ as vs) (n : Nat) : Rels ρ (as.take n) (vs.take n) := by
  induction as generalizing vs n with
  | nil => simp [Rels] at h; subst h; simpa using Rels.nil
  | cons a as ih =>
    simp only [Rels] at h
    obtain ⟨v, vs', rfl, h1, h'⟩ := h
    cases n with
    | zero => simpa using Rels.nil
    | succ n => simpa using Rels.cons h1 (ih h' n)
theorem Rels.drop {ρ : Rho} {as : List AV} {vs : List Value} (h : Rels ρ as vs) (n : Nat) : Rels ρ (as.drop n) (vs.drop n) := by
  induction as generalizing vs n with
  | nil => simp [Rels] at h; subst h; simpa using Rels.nil
  | cons a as ih =>
    simp only [Rels] at h
    obtain ⟨v, vs', rfl, h1, h'⟩ := h
    cases n with
    | zero => simpa using Rels.cons h1 h'
    | succ n => simpa using ih h' n

mutual
theorem Rel.mono {ρ ρ' : Rho} (hle : ρ.le ρ') : ∀ (a : AV) (v : Value), Rel ρ a v → Rel ρ' a v
  | .any, _, h => by simp [Rel] at h
  | .bool _, _, h => by simpa [Rel] using h
  | .int _ _, _, h => by simpa [Rel] using h
  | .str _, _, h => by simpa [Rel] using h
  | .ptr none, _, h => by simpa [Rel] using h
  | .ptr (some (b, off)), _, h => by
    simp only [Rel] at h ⊢
    obtain ⟨B, o, r, h1, h2⟩ := h
    exact ⟨B, o, r, hle.1 _ _ h1, h2⟩
  | .nilSl, _, h => by simpa [Rel] using h
  | .sl b off len cap, _, h => by
    simp only [Rel] at h ⊢
    obtain ⟨B, o, r, h1, h2⟩ := h
    exact ⟨B, o, r, hle.1 _ _ h1, h2⟩
  | .fn f first caps, _, h => by
    simp only [Rel] at h ⊢
    obtain ⟨x, y, h1, h2, h3⟩ := h
    exact ⟨x, y, h1, Rels.mono hle _ _ h2, Rels.mono hle _ _ h3⟩
  | .nilFn, _, h => by simpa [Rel] using h
  | .lit _, _, h => by simpa [Rel] using h
  | .agg cs, _, h => by
    simp only [Rel] at h ⊢
    obtain ⟨l, h1, h2⟩ := h
    exact ⟨l, h1, Rels.mono hle _ _ h2⟩
  | .tup cs, _, h => by
    simp only [Rel] at h ⊢
    obtain ⟨l, h1, h2⟩ := h
    exact ⟨l, h1, Rels.mono hle _ _ h2⟩
  | .fz nn e l, _, h => by
    simp only [Rel] at h ⊢
    exact h.mono hle.2 (fun d vs => RelSh.mono hle.2 e d vs)
  | .fref sh d, _, h => by
    simp only [Rel] at h ⊢
    obtain ⟨B, o, vs, h1, h2, h3⟩ := h
    exact ⟨B, o, vs, h1, RelSh.mono hle.2 _ _ _ h2, fun j u hu => hle.2 _ _ _ (h3 j u hu)⟩
  | .tsl nn e b off len cap, _, h => by
    simp only [Rel] at h ⊢
    obtain ⟨B, o, r, h1, h2⟩ := h
    exact ⟨B, o, r, hle.1 _ _ h1, h2⟩
  | .eptr e b i fo, _, h => by
    simp only [Rel] at h ⊢
    obtain ⟨B, o, r, h1, h2⟩ := h
    exact ⟨B, o, r, hle.1 _ _ h1, h2⟩
theorem Rels.mono {ρ ρ' : Rho} (hle : ρ.le ρ') : ∀ (as : List AV) (vs : List Value), Rels ρ as vs → Rels ρ' as vs
  | [], _, h => by simpa [Rels] using h
  | a :: as, _, h => by
    simp only [Rels] at h ⊢
    obtain ⟨v, vs, h1, h2, h3⟩ := h
    exact ⟨v, vs, h1, Rel.mono hle _ _ h2, Rels.mono hle _ _ h3⟩
end

theorem rel_undef (ρ : Rho) : Rel ρ undefA undef := by simp [undefA, undef, Rel, Rels]

/- ### Forms -/
theorem FzR.form {F : Nat → Nat → Option Value} {sz : Nat} {R : D → List Value → Prop} {nn : Bool} {l : List D} {v : Value} (h : FzR F sz R nn l v) : ∃ p c, v = .slice p l.length c := by
  rcases h with ⟨_, rfl, rfl⟩ | ⟨B, o, cap, rfl, _⟩
  · exact ⟨_, _, rfl⟩
  · exact ⟨_, _, rfl⟩
theorem Rel.tsl_form {ρ : Rho} {nn : Bool} {e : Sh} {b off len : Nat} {cap : Cap} {v : Value} (h : Rel ρ (.tsl nn e b off len cap) v) : ∃ p c, v = .slice p len c := by
  simp only [Rel] at h
  obtain ⟨B, o, r, h1, ⟨_, rfl, _, _, rfl⟩ | ⟨c, h2, h3, _, h4, rfl | ⟨rfl, x, rfl⟩⟩⟩ := h
  · exact ⟨_, _, rfl⟩
  · exact ⟨_, _, rfl⟩
  · obtain rfl : len = 0 := by omega
    exact ⟨_, _, rfl⟩
theorem Rel.bool_inv {ρ : Rho} {a : AV} {b : Bool} (h : Rel ρ a (.bool b)) : a = .bool b := by
  cases a with
  | bool => simp [Rel] at h; simp [h]
  | ptr p => rcases p with _ | ⟨_, _⟩ <;> simp [Rel] at h
  | lit u => simp only [Rel] at h; obtain ⟨rfl, h⟩ := h; simp [litOk] at h
  | fz => simp only [Rel] at h; obtain ⟨p, c, e⟩ := h.form; cases e
  | tsl => obtain ⟨p, c, e⟩ := h.tsl_form; cases e
  | fref => simp only [Rel] at h; obtain ⟨_, _, _, e, _⟩ := h; cases e
  | eptr => simp only [Rel] at h; obtain ⟨_, _, _, _, e⟩ := h; cases e
  | _ => simp [Rel] at h

mutual
theorem rel_ofVal {ρ : Rho} : ∀ (v : Value) (a : AV), ofVal v = some a → Rel ρ a v
  | .bool b, a, h => by simp [ofVal] at h; subst h; simp [Rel]
  | .int k n, a, h => by simp [ofVal] at h; subst h; simp [Rel]
  | .string s, a, h => by simp [ofVal] at h; subst h; simp [Rel]
  | .pointer none, a, h => by simp [ofVal] at h; subst h; simp [Rel]
  | .pointer (some _), a, h => by simp [ofVal] at h
  | .slice none 0 0, a, h => by simp [ofVal] at h; subst h; simp [Rel]
  | .slice none (n + 1) _, a, h => by simp [ofVal] at h
  | .slice none 0 (n + 1), a, h => by simp [ofVal] at h
  | .slice (some _) _ _, a, h => by simp [ofVal] at h
  | .nilFunc, a, h => by simp [ofVal] at h; subst h; simp [Rel]
  | .nilIface, a, h => by simp [ofVal] at h; subst h; simp [Rel, litOk]
  | .map none, a, h => by simp [ofVal] at h; subst h; simp [Rel, litOk]
  | .map (some _), a, h => by simp [ofVal] at h
  | .func (.func f) ⟨[]⟩ ⟨[]⟩, a, h => by simp [ofVal] at h; subst h; simp [Rel, Rels]
  | .func (.func f) ⟨_ :: _⟩ _, a, h => by simp [ofVal] at h
  | .func (.func f) ⟨[]⟩ ⟨_ :: _⟩, a, h => by simp [ofVal] at h
  | .func (.method _) _ _, a, h => by simp [ofVal] at h
  | .func (.methodOf _ _) _ _, a, h => by simp [ofVal] at h
  | .func (.via _ _ _ _) _ _, a, h => by simp [ofVal] at h
  | .func (.yield _) _ _, a, h => by simp [ofVal] at h
  | .agg ⟨cs⟩, a, h => by
    simp only [ofVal] at h
    split at h
    · rename_i l hl
      cases h
      simp only [Rel]
      exact ⟨cs, rfl, rels_ofVals cs l hl⟩
    · cases h
  | .tuple ⟨[]⟩, a, h => by simp [ofVal] at h; subst h; simp [Rel, Rels]
  | .tuple ⟨_ :: _⟩, a, h => by simp [ofVal] at h
  | .float _ _, a, h => by simp [ofVal] at h
  | .complex _ _ _, a, h => by simp [ofVal] at h
  | .chan _, a, h => by simp [ofVal] at h
  | .iface _ _, a, h => by simp [ofVal] at h
theorem rels_ofVals {ρ : Rho} : ∀ (vs : List Value) (as : List AV), ofVals vs = some as → Rels ρ as vs
  | [], as, h => by simp [ofVals] at h; subst h; simp [Rels]
  | v :: vs, as, h => by
    simp only [ofVals] at h
    split at h
    · cases h
    · rename_i a ha
      split at h
      · cases h
      · rename_i l hl
        cases h
        exact Rels.cons (rel_ofVal v a ha) (rels_ofVals vs l hl)
end

/-- A value that is no struct, array or tuple is one cell. -/
theorem Rel.oneCell {ρ : Rho} {a : AV} {v : Value} (h : Rel ρ a v) (hs : scalarV a = true) : v.oneCell' = true := by
  cases a with
  | any => simp [scalarV] at hs
  | agg => simp [scalarV] at hs
  | tup => simp [scalarV] at hs
  | ptr p =>
    rcases p with _ | ⟨_, _⟩ <;> simp only [Rel] at h
    · subst h; rfl
    · obtain ⟨B, o, r, _, rfl⟩ := h; rfl
  | sl => simp only [Rel] at h; obtain ⟨B, o, r, _, _, rfl⟩ := h; rfl
  | fz => simp only [Rel] at h; obtain ⟨p, c, rfl⟩ := h.form; rfl
  | tsl => obtain ⟨p, c, rfl⟩ := h.tsl_form; rfl
  | fref => simp only [Rel] at h; obtain ⟨_, _, _, rfl, _⟩ := h; rfl
  | eptr => simp only [Rel] at h; obtain ⟨_, _, _, _, rfl⟩ := h; rfl
  | fn =>
    simp only [Rel] at h
    obtain ⟨x, y, rfl, _⟩ := h
    rfl
  | lit u =>
    simp only [Rel] at h
    obtain ⟨rfl, h2⟩ := h
    cases v <;> simp [litOk] at h2 <;> rfl
  | _ => simp only [Rel] at h; subst h; rfl
theorem oneCell_cells {v : Value} (h : v.oneCell' = true) : v.cells = #[v] := by
  cases v <;> first | rfl | (simp [Value.oneCell'] at h)
theorem Rel.cells {ρ : Rho} {a : AV} {v : Value} (h : Rel ρ a v) : Rels ρ a.cells v.cells.toList := by
  cases hs : scalarV a with
  | true =>
    have h1 := oneCell_cells (h.oneCell hs)
    have h2 : a.cells = [a] := by cases a <;> first | rfl | (simp [scalarV] at hs)
    rw [h1, h2]
    exact Rels.cons h Rels.nil
  | false =>
    cases a with
    | agg cs =>
      simp only [Rel] at h
      obtain ⟨l, rfl, h2⟩ := h
      simpa [AV.cells, Value.cells] using h2
    | tup vs =>
      have h' := h
      simp only [Rel] at h
      obtain ⟨l, rfl, _⟩ := h
      exact Rels.cons h' Rels.nil
    | any => simp [Rel] at h
    | _ => simp [scalarV] at hs
theorem Rels.oneCell {ρ : Rho} : ∀ {as : List AV} {vs : List Value}, Rels ρ as vs → scalars as = true → ∀ v ∈ vs, v.oneCell' = true
  | [], vs, h, _, v, hv => by simp [Rels] at h; subst h; simp at hv
  | a :: as, vs, h, hs, v, hv => by
    simp only [Rels] at h
    obtain ⟨u, us, rfl, h1, h2⟩ := h
    simp only [scalars, Bool.and_eq_true] at hs
    rcases List.mem_cons.1 hv with rfl | hv
    · exact h1.oneCell hs.1
    · exact Rels.oneCell h2 hs.2 v hv

/- ### Data and its cells -/
mutual
theorem rels_expand {ρ : Rho} : ∀ (sh : Sh) (d : D) (vs : List Value), RelSh ρ.fz sh d vs ↔ Rels ρ (expand sh d) vs
  | .bool, d, vs => by
    simp only [RelSh, expand, Rels, Rel]
    constructor
    · rintro rfl; exact ⟨_, _, rfl, rfl, rfl⟩
    · rintro ⟨v, us, rfl, rfl, rfl⟩; rfl
  | .int k, d, vs => by
    simp only [RelSh, expand, Rels, Rel]
    constructor
    · rintro rfl; exact ⟨_, _, rfl, rfl, rfl⟩
    · rintro ⟨v, us, rfl, rfl, rfl⟩; rfl
  | .str, d, vs => by
    simp only [RelSh, expand, Rels, Rel]
    constructor
    · rintro rfl; exact ⟨_, _, rfl, rfl, rfl⟩
    · rintro ⟨v, us, rfl, rfl, rfl⟩; rfl
  | .slice e, d, vs => by
    simp only [RelSh, expand, Rels, Rel]
    constructor
    · rintro ⟨v, rfl, h⟩; exact ⟨_, _, rfl, h, rfl⟩
    · rintro ⟨v, us, rfl, h, rfl⟩; exact ⟨v, rfl, h⟩
  | .struct fs, d, vs => by
    simp only [RelSh, expand]
    exact rels_expands fs d 0 vs
theorem rels_expands {ρ : Rho} : ∀ (fs : List Sh) (d : D) (i : Nat) (vs : List Value), RelShs ρ.fz fs d i vs ↔ Rels ρ (expands fs d i) vs
  | [], d, i, vs => by simp only [RelShs, expands, Rels]
  | f :: fs, d, i, vs => by
    simp only [RelShs, expands]
    constructor
    · rintro ⟨a, b, rfl, h1, h2⟩
      exact Rels.append ((rels_expand f _ _).1 h1) ((rels_expands fs _ _ _).1 h2)
    · intro h
      have hl := h.length
      simp only [List.length_append] at hl
      refine ⟨vs.take (expand f (d.fld i)).length, vs.drop (expand f (d.fld i)).length, (List.take_append_drop _ _).symm, ?_, ?_⟩
      · refine (rels_expand f _ _).2 ?_
        have := h.take (expand f (d.fld i)).length
        simpa using this
      · refine (rels_expands fs _ _ _).2 ?_
        have := h.drop (expand f (d.fld i)).length
        simpa using this
end
mutual
theorem expand_length : ∀ (sh : Sh) (d : D), (expand sh d).length = sh.size
  | .bool, d => rfl
  | .int k, d => rfl
  | .str, d => rfl
  | .slice e, d => rfl
  | .struct fs, d => by simp only [expand, Sh.size]; exact expands_length fs d 0
theorem expands_length : ∀ (fs : List Sh) (d : D) (i : Nat), (expands fs d i).length = Sh.sizes fs
  | [], d, i => rfl
  | f :: fs, d, i => by simp only [expands, Sh.sizes, List.length_append, expand_length f, expands_length fs]
end
theorem flat_length (e : Sh) : ∀ (l : List D), (flat e l).length = l.length * e.size
  | [] => by simp [flat]
  | d :: l => by simp only [flat, List.length_append, expand_length, flat_length e l, List.length_cons, Nat.add_mul, Nat.one_mul]; omega
theorem flat_append (e : Sh) : ∀ (l m : List D), flat e (l ++ m) = flat e l ++ flat e m
  | [], m => rfl
  | d :: l, m => by simp only [List.cons_append, flat, flat_append e l m, List.append_assoc]
theorem flat_take (e : Sh) : ∀ (l : List D) (n : Nat), flat e (l.take n) = (flat e l).take (n * e.size)
  | [], n => by simp [flat]
  | d :: l, 0 => by simp [flat]
  | d :: l, n + 1 => by
    simp only [List.take_succ_cons, flat, flat_take e l n]
    rw [List.take_append, expand_length, show (n + 1) * e.size - e.size = n * e.size by rw [Nat.add_mul]; omega]
    rw [List.take_of_length_le (l := expand e d) (by rw [expand_length, Nat.add_mul]; omega)]
theorem flat_drop (e : Sh) : ∀ (l : List D) (n : Nat), flat e (l.drop n) = (flat e l).drop (n * e.size)
  | [], n => by simp [flat]
  | d :: l, 0 => by simp [flat]
  | d :: l, n + 1 => by
    simp only [List.drop_succ_cons, flat, flat_drop e l n]
    rw [List.drop_append, expand_length, show (n + 1) * e.size - e.size = n * e.size by rw [Nat.add_mul]; omega]
    rw [List.drop_of_length_le (l := expand e d) (by rw [expand_length, Nat.add_mul]; omega)]
    rfl
theorem flat_getD (e : Sh) (l : List D) (i : Nat) (h : i < l.length) : ((flat e l).drop (i * e.size)).take e.size = expand e (l.getD i .nul) := by
  rw [← flat_drop]
  have : l.drop i = l.getD i .nul :: l.drop (i + 1) := by
    rw [List.drop_eq_getElem_cons h]
    simp [List.getD, List.getElem?_eq_getElem h]
  rw [this]
  simp only [flat]
  rw [List.take_append_of_le_length (by rw [expand_length]; exact Nat.le_refl _), List.take_of_length_le (by rw [expand_length]; exact Nat.le_refl _)]
theorem flat_set (e : Sh) : ∀ (l : List D) (i : Nat) (d : D), i < l.length → flat e (l.set i d) = (flat e l).take (i * e.size) ++ (expand e d ++ (flat e l).drop ((i + 1) * e.size))
  | [], i, d, h => by simp at h
  | x :: l, 0, d, h => by
    simp only [List.set_cons_zero, flat, Nat.zero_mul, List.take_zero, List.nil_append, Nat.zero_add, Nat.one_mul]
    rw [List.drop_append, expand_length, Nat.sub_self, List.drop_of_length_le (by rw [expand_length]; exact Nat.le_refl _)]
    rfl
  | x :: l, i + 1, d, h => by
    simp only [List.set_cons_succ, flat, flat_set e l i d (by simpa using h)]
    rw [List.take_append, expand_length, show (i + 1) * e.size - e.size = i * e.size by rw [Nat.add_mul]; omega, List.take_of_length_le (l := expand e x) (by rw [expand_length, Nat.add_mul]; omega)]
    rw [List.drop_append, expand_length, show (i + 1 + 1) * e.size - e.size = (i + 1) * e.size by rw [Nat.add_mul (i + 1)]; omega, List.drop_of_length_le (l := expand e x) (by rw [expand_length, Nat.add_mul (i + 1), Nat.add_mul]; omega)]
    simp
mutual
theorem scalars_expand : ∀ (sh : Sh) (d : D), scalars (expand sh d) = true
  | .bool, d => rfl
  | .int k, d => rfl
  | .str, d => rfl
  | .slice e, d => rfl
  | .struct fs, d => by simp only [expand]; exact scalars_expands fs d 0
theorem scalars_expands : ∀ (fs : List Sh) (d : D) (i : Nat), scalars (expands fs d i) = true
  | [], d, i => rfl
  | f :: fs, d, i => by
    have app : ∀ (a b : List AV), scalars a = true → scalars b = true → scalars (a ++ b) = true := by
      intro a b ha hb
      induction a with
      | nil => exact hb
      | cons x a ih =>
        simp only [scalars, Bool.and_eq_true, List.cons_append] at ha ⊢
        exact ⟨ha.1, ih ha.2⟩
    exact app _ _ (scalars_expand f _) (scalars_expands fs _ _)
end
theorem scalars_append {a b : List AV} (ha : scalars a = true) (hb : scalars b = true) : scalars (a ++ b) = true := by
  induction a with
  | nil => exact hb
  | cons x a ih =>
    simp only [scalars, Bool.and_eq_true, List.cons_append] at ha ⊢
    exact ⟨ha.1, ih ha.2⟩
theorem scalars_flat (e : Sh) : ∀ (l : List D), scalars (flat e l) = true
  | [] => rfl
  | d :: l => scalars_append (scalars_expand e d) (scalars_flat e l)

end Go.Sy
