/- Calls with arguments of which this or that is known; functions that are known to come to true. -/
import Derived.Test.YtekedhfmdpbplaaDenT
set_option linter.unusedSimpArgs false
set_option linter.unusedVariables false
namespace Go.Den
open Go

section
variable {P : Program}

def nowhere : Rho := fun _ => none

theorem HR.frame {ρ : Rho} {h : Hp} {w w' : World} (hr : HR ρ h w) (hb : Go.RowKit.Below w.heap.size w w') : HR ρ h w' where
  cell := fun id B o r ro fam cs e1 e2 => by
    have := hr.cell id B o r ro fam cs e1 e2
    exact rel_of_le (fun _ _ e => e) this hb.size (hb.block B this.lt)
  apart := hr.apart
  fam := hr.fam
  ent := hr.ent

/-- Functions without arguments that are known to come to true. -/
def truePrim (gs : List FuncId) : FuncId → Option (List AV → St → Option (AV × St)) := fun g =>
  match gs.contains g with
  | true => some fun args st => match args with
    | [] => some (.bool true, st)
    | _ => none
  | false => none
theorem truePrim_of (ok : ProgOk P) {gs : List FuncId} (h : ∀ g ∈ gs, ∀ w, Calls P g (#[] : Array Value) w fun e w' => e = .returned (.bool true) ∧ Go.RowKit.Below w.heap.size w w') : PrimOk P (truePrim gs) where
  mono := fun g f args st v st' e1 e2 => by
    unfold truePrim at e1
    split at e1
    · cases e1
      simp only at e2
      split at e2
      · cases e2; exact Nat.le_refl _
      · cases e2
    · cases e1
  calls := fun g f args st v st' e1 e2 ρ hp w vargs hr ha hf hrel => by
    unfold truePrim at e1
    split at e1
    · rename_i hg
      cases e1
      simp only at e2
      split at e2
      · cases e2
        simp only [Rels] at hrel
        subst hrel
        refine (h g (by simpa using hg) w).mono ?_
        rintro e w' ⟨rfl, hb⟩
        refine ⟨.bool true, ρ, rfl, ?_, by simp [Rel]⟩
        rw [upd_self ha]
        exact ⟨fun _ _ e => e, fun id e => absurd rfl e, (upd_self ha).symm, hr.frame hb, ha, Nat.le_refl _, hb.os, hb.tape, hb.output, hb.size, fun B hB hf => ⟨hb.block B hB, hf⟩, fun _ _ _ _ => rfl⟩
      · cases e2
    · cases e1

theorem truePrim_ok (ok : ProgOk P) {gs : List FuncId} (h : ∀ g ∈ gs, ∃ pr L n, PrimOk P pr ∧ saysTrue P pr L n g = true) : PrimOk P (truePrim gs) :=
  truePrim_of ok fun g hg w => by
    obtain ⟨pr, L, n, hpr, hs⟩ := h g hg
    exact says_true ok hpr hs w

def saysArgs (P : Program) (pr : FuncId → Option (List AV → St → Option (AV × St))) (L n : Nat) (g : FuncId) (args : List AV) : Bool :=
  match callA P pr L n g args empty with
  | some (.bool b, _) => b
  | _ => false
theorem says_args (ok : ProgOk P) {pr : FuncId → Option (List AV → St → Option (AV × St))} (hpr : PrimOk P pr) {L n : Nat} {g : FuncId} {args : List AV} {vargs : List Value} (h : saysArgs P pr L n g args = true) (hrel : Rels nowhere args vargs) (w : World) :
    Calls P g vargs.toArray w fun e w' => e = .returned (.bool true) ∧ Go.RowKit.Below w.heap.size w w' := by
  unfold saysArgs at h
  split at h
  · rename_i b st' hcall
    subst h
    have hc := (call_sound ok hpr L n).calls g args empty _ _ hcall nowhere (fun _ => none) w vargs (empty_HR w) empty_Agree ⟨fun _ _ _ => rfl, fun _ _ e => absurd rfl e⟩ hrel
    refine hc.mono ?_
    rintro e w' ⟨u, ρ', rfl, hp, hv⟩
    simp only [Rel] at hv
    subst hv
    exact ⟨rfl, hp.below (fun B _ id o r e => by cases e)⟩
  · cases h

/- ### Cases -/
def Covers (l : List AV) (v : Value) : Prop := ∃ a ∈ l, Rel nowhere a v
def allA : List (List AV) → (List AV → Bool) → Bool
  | [], f => f []
  | l :: ls, f => l.all fun a => allA ls fun as => f (a :: as)
def CoverAll : List (List AV) → List Value → Prop
  | [], vs => vs = []
  | l :: ls, vs => ∃ v us, vs = v :: us ∧ Covers l v ∧ CoverAll ls us
theorem allA_leaf {f : List AV → Bool} (h : f [] = true) : allA [] f = true := h
theorem allA_nil {ls : List (List AV)} {f : List AV → Bool} : allA ([] :: ls) f = true := rfl
theorem allA_cons {a : AV} {l : List AV} {ls : List (List AV)} {f : List AV → Bool} (h : allA ls (fun as => f (a :: as)) = true) (k : allA (l :: ls) f = true) : allA ((a :: l) :: ls) f = true := by
  simp only [allA, List.all_cons, Bool.and_eq_true] at k ⊢
  exact ⟨h, k⟩
theorem allA_some : ∀ {ls : List (List AV)} {vs : List Value} {f : List AV → Bool}, allA ls f = true → CoverAll ls vs → ∃ args, Rels nowhere args vs ∧ f args = true
  | [], vs, f, h, hc => by
    simp only [CoverAll] at hc; subst hc
    exact ⟨[], Rels.nil, h⟩
  | l :: ls, vs, f, h, hc => by
    simp only [CoverAll] at hc
    obtain ⟨v, us, rfl, ⟨a, ha, hr⟩, hc'⟩ := hc
    simp only [allA] at h
    have h1 := List.all_eq_true.1 h a ha
    obtain ⟨args, h2, h3⟩ := allA_some (f := fun as => f (a :: as)) h1 hc'
    exact ⟨a :: args, Rels.cons hr h2, h3⟩
theorem says_cases (ok : ProgOk P) {pr : FuncId → Option (List AV → St → Option (AV × St))} (hpr : PrimOk P pr) {L n : Nat} {g : FuncId} {ls : List (List AV)} {vargs : List Value} (h : allA ls (saysArgs P pr L n g) = true) (hc : CoverAll ls vargs) (w : World) :
    Calls P g vargs.toArray w fun e w' => e = .returned (.bool true) ∧ Go.RowKit.Below w.heap.size w w' := by
  obtain ⟨args, h1, h2⟩ := allA_some h hc
  exact says_args ok hpr h2 h1 w

def bools : List AV := [.bool false, .bool true]
theorem bools_cov (b : Bool) : Covers bools (.bool b) := ⟨.bool b, by cases b <;> simp [bools], by simp [Rel]⟩

/-- What is known of a number that is less than all of lo, .., lo + n - 1; that is greater. -/
def lessF : Nat → Int → List (List (BinOp × Int) × FV)
  | 0, _ => []
  | n + 1, c => ([(.lss, c)], .b true) :: ([(.leq, c)], .b true) :: ([(.gtr, c)], .b false) :: ([(.geq, c)], .b false) :: ([(.eql, c)], .b false) :: ([(.neq, c)], .b true) :: lessF n (c + 1)
def moreF : Nat → Int → List (List (BinOp × Int) × FV)
  | 0, _ => []
  | n + 1, c => ([(.lss, c)], .b false) :: ([(.leq, c)], .b false) :: ([(.gtr, c)], .b true) :: ([(.geq, c)], .b true) :: ([(.eql, c)], .b false) :: ([(.neq, c)], .b true) :: moreF n (c + 1)
theorem lessF_ok {k : IntKind} {m : Int} : ∀ {n : Nat} {lo : Int}, m < lo → ∀ x ∈ lessF n lo, chainA k m x.1 = some (x.2.av k)
  | 0, lo, h, x, hx => by simp [lessF] at hx
  | n + 1, lo, h, x, hx => by
    simp only [lessF, List.mem_cons] at hx
    rcases hx with rfl | rfl | rfl | rfl | rfl | rfl | hx
    · simp [chainA, intOp, FV.av, h]
    · simp [chainA, intOp, FV.av]; omega
    · simp [chainA, intOp, FV.av]; omega
    · simp [chainA, intOp, FV.av]; omega
    · simp [chainA, intOp, FV.av]; omega
    · simp [chainA, intOp, FV.av]; omega
    · exact lessF_ok (by omega) x hx
theorem moreF_ok {k : IntKind} {m : Int} : ∀ {n : Nat} {lo : Int}, lo + n ≤ m → ∀ x ∈ moreF n lo, chainA k m x.1 = some (x.2.av k)
  | 0, lo, h, x, hx => by simp [moreF] at hx
  | n + 1, lo, h, x, hx => by
    simp only [moreF, List.mem_cons] at hx
    rcases hx with rfl | rfl | rfl | rfl | rfl | rfl | hx
    · simp [chainA, intOp, FV.av]; omega
    · simp [chainA, intOp, FV.av]; omega
    · simp [chainA, intOp, FV.av]; omega
    · simp [chainA, intOp, FV.av]; omega
    · simp [chainA, intOp, FV.av]; omega
    · simp [chainA, intOp, FV.av]; omega
    · exact moreF_ok (by omega) x hx
/-- Of each number from lo to lo + n - 1 itself; of others that they are less, or greater. -/
def countA (k : IntKind) : Nat → Int → List AV
  | 0, _ => []
  | n + 1, c => .int k c :: countA k n (c + 1)
def rangeA (k : IntKind) (lo : Int) (n : Nat) : List AV := .fact k (lessF n lo) :: .fact k (moreF n lo) :: countA k n lo
theorem countA_mem {k : IntKind} : ∀ {n : Nat} {lo m : Int}, lo ≤ m → m < lo + n → .int k m ∈ countA k n lo
  | 0, lo, m, h1, h2 => by omega
  | n + 1, lo, m, h1, h2 => by
    simp only [countA, List.mem_cons]
    by_cases e : m = lo
    · left; rw [e]
    · right; exact countA_mem (by omega) (by omega)
theorem rangeA_cov (k : IntKind) (lo : Int) (n : Nat) (m : Int) : Covers (rangeA k lo n) (.int k m) := by
  by_cases h1 : m < lo
  · exact ⟨.fact k (lessF n lo), by simp [rangeA], by simp only [Rel]; exact ⟨m, rfl, lessF_ok h1⟩⟩
  · by_cases h2 : m < lo + n
    · exact ⟨.int k m, by simp only [rangeA, List.mem_cons]; right; right; exact countA_mem (by omega) h2, by simp [Rel]⟩
    · exact ⟨.fact k (moreF n lo), by simp [rangeA], by simp only [Rel]; exact ⟨m, rfl, moreF_ok (by omega)⟩⟩
end
end Go.Den
