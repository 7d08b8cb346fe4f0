/- What is asked of a program, as closed facts. -/
import Derived.Test.YtekedhfmdpbplaaDenS
import Derived.Laws.Externs
import Derived.KernelRfl
set_option linter.unusedSimpArgs false
set_option linter.unusedVariables false
namespace Go.Den
open Go

def namesOkA (P : Program) : Bool := P.funcs.toList.all fun fn => fn.body.isNone || !(fn.name == "runtime.NumGoroutine")
def drawsAllA (P : Program) : Bool := P.funcs.toList.all fun fn => match fn.body with | some c => drawsOkA P c | none => true
def extsOkA (P : Program) : Bool := P.funcs.toList.all fun fn => fn.body.isSome || !(fn.name == "math/bits.Add64" || fn.name == "math/bits.Sub64") || (fn.origin == "")

theorem next_add : Extern.allNextRows.lookup "math/bits.Add64" = none := by kernel_rfl
theorem next_sub : Extern.allNextRows.lookup "math/bits.Sub64" = none := by kernel_rfl
theorem next_nil : Extern.allNextRows.lookup "" = none := by kernel_rfl
theorem gen_add : Extern.allGenericRows.lookup "math/bits.Add64" = none := by kernel_rfl
theorem gen_sub : Extern.allGenericRows.lookup "math/bits.Sub64" = none := by kernel_rfl
theorem typ_add : Extern.allTypedRows.lookup "math/bits.Add64" = none := by kernel_rfl
theorem typ_sub : Extern.allTypedRows.lookup "math/bits.Sub64" = none := by kernel_rfl
def addRow : Array Value → Sem Value := fun args => do
  let (x, y, c) ← Extern.MathBitsCarry.three "Add64" args
  pure (Extern.MathBitsCarry.pair ((x + y + c) % Extern.MathBitsCarry.m64) ((x + y + c) / Extern.MathBitsCarry.m64))
def subRow : Array Value → Sem Value := fun args => do
  let (x, y, b) ← Extern.MathBitsCarry.three "Sub64" args
  pure (Extern.MathBitsCarry.pair ((x + Extern.MathBitsCarry.m64 - y - b) % Extern.MathBitsCarry.m64) (if x < y + b then 1 else 0))
theorem row_add : Extern.allRows.lookup "math/bits.Add64" = some addRow := by kernel_rfl
theorem row_sub : Extern.allRows.lookup "math/bits.Sub64" = some subRow := by kernel_rfl

theorem run_addRow {P : Program} (x y c : Int) (hc : c = 0 ∨ c = 1) (w : World) : (addRow #[.int .u64 x, .int .u64 y, .int .u64 c]).run P w =
    .ok (.tuple #[.int .u64 (((x.toNat + y.toNat + c.toNat) % 18446744073709551616 : Nat) : Int), .int .u64 (((x.toNat + y.toNat + c.toNat) / 18446744073709551616 : Nat) : Int)]) w := by
  rcases hc with rfl | rfl <;> rfl
theorem run_subRow {P : Program} (x y c : Int) (hc : c = 0 ∨ c = 1) (w : World) : (subRow #[.int .u64 x, .int .u64 y, .int .u64 c]).run P w =
    .ok (Extern.MathBitsCarry.pair ((x.toNat + 18446744073709551616 - y.toNat - c.toNat) % 18446744073709551616) (if x.toNat < y.toNat + c.toNat then 1 else 0)) w := by
  rcases hc with rfl | rfl <;> rfl
theorem name_ne (fn : Func) (h : fn.name = "math/bits.Add64" ∨ fn.name = "math/bits.Sub64") : (fn.name == "runtime.NumGoroutine") = false := by
  rcases h with h | h <;> rw [h] <;> decide

theorem progOk_of {P : Program} (h1 : P.follows .mixedOrders = true) (h2 : namesOkA P = true) (h3 : drawsAllA P = true) (h4 : extsOkA P = true) : ProgOk P where
  orders := h1
  names := fun g fn hfn hb => by
    have := List.all_eq_true.1 h2 fn (by rw [Array.mem_toList_iff]; exact Array.mem_of_getElem? hfn)
    cases hbd : fn.body with
    | none => exact absurd hbd hb
    | some c =>
      rw [hbd] at this
      simpa using this
  draws := fun g fn c hfn hb => by
    have := List.all_eq_true.1 h3 fn (by rw [Array.mem_toList_iff]; exact Array.mem_of_getElem? hfn)
    rw [hb] at this
    exact this
  ext := fun g fn ρ args vargs v hfn hb he hrel w => by
    have horig := List.all_eq_true.1 h4 fn (by rw [Array.mem_toList_iff]; exact Array.mem_of_getElem? hfn)
    rw [hb] at horig
    unfold externA at he
    split at he
    · rename_i x y c
      simp only [Rels, Rel] at hrel
      obtain ⟨_, _, rfl, rfl, _, _, rfl, rfl, _, _, rfl, rfl, rfl⟩ := hrel
      split at he
      · cases he
      · rename_i hc
        simp only [Bool.and_eq_true, decide_eq_true_eq] at hc
        have hcn : ¬ c.toNat > 1 := by omega
        split at he
        · rename_i hn
          cases he
          have hn' : fn.name = "math/bits.Add64" := by simpa using hn
          have ho : fn.origin = "" := by
            rw [hn'] at horig
            simpa using horig
          have f1 : Extern.findNext fn = none := by simp [Extern.findNext, hn', ho, next_add, next_nil]
          have f2 : Extern.find fn = some addRow := by simp [Extern.find, hn', gen_add, typ_add, row_add]
          rw [run_callFunc_extern hfn (name_ne fn (.inl hn')) (by rw [hb]; rfl) f1 f2, run_addRow x y c (by omega)]
          exact ⟨_, rfl, by simp only [Rel]; exact ⟨_, rfl, Rels.cons (by simp [Rel]) (Rels.cons (by simp [Rel]) Rels.nil)⟩⟩
        · split at he
          · rename_i hn
            cases he
            have hn' : fn.name = "math/bits.Sub64" := by simpa using hn
            have ho : fn.origin = "" := by
              rw [hn'] at horig
              simpa using horig
            have f1 : Extern.findNext fn = none := by simp [Extern.findNext, hn', ho, next_sub, next_nil]
            have f2 : Extern.find fn = some subRow := by simp [Extern.find, hn', gen_sub, typ_sub, row_sub]
            rw [run_callFunc_extern hfn (name_ne fn (.inr hn')) (by rw [hb]; rfl) f1 f2, run_subRow x y c (by omega)]
            refine ⟨_, rfl, ?_⟩
            simp only [Rel, Extern.MathBitsCarry.pair]
            refine ⟨_, rfl, Rels.cons (by simp [Rel]) (Rels.cons ?_ Rels.nil)⟩
            simp only [Rel, Value.int.injEq, true_and]
            split <;> rfl
          · cases he
    · cases he
end Go.Den
