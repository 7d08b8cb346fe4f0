/- A library function of which the kit's shelf tells what it comes to. -/
import Derived.Test.YtekedhfmdpbplaaSyY
import Derived.Sort.Grow
import Derived.Deep.Draws
import Derived.Lib.LaidTab
import Derived.Lib.ItoaNum
import Derived.Lib.SmallJoins
import Derived.LaidHandle
import Derived.Stop.LaidErr
set_option linter.unusedSimpArgs false
set_option linter.unusedVariables false
namespace Go.Sy
open Go
theorem HR.more {ρ : Rho} {h : Hp} {w w' : World} (hr : HR ρ h w) (hsz : w.heap.size ≤ w'.heap.size) (hw : ∀ B, B < w.heap.size → w'.heap[B]? = w.heap[B]?) : HR ρ h w' := by
  have fzh : ∀ (B o : Nat) (v : Value), ρ.fz B o = some v → w'.cell? ⟨B, o, none⟩ = some v := fun B o v e => by
    have hc := hr.fzh B o v e
    rw [World.cell?_of_block (w := w)]
    · exact hc
    · exact hw B (cell_lt hc)
  exact
  { cell := fun id B o r x ro cs h1 h2 h3 => by
      have hc := hr.cell id B o r x ro cs h1 h2 h3
      refine hc.move Rho.le.rfl hsz ?_ fzh
      by_cases h0 : r = 0
      · exact .inl h0
      · exact .inr (hw B (hc.lt h0))
    apart := hr.apart
    fzh := fzh
    fza := hr.fza
    ent := hr.ent
    glob := hr.globs fun B hB hF => ⟨hw B hB, hF⟩ }
theorem grow_old (w : World) (k : Nat) (os : Array Obj) (B : Nat) (h : B < w.heap.size) : (Sort.grow (w.drewN k) os).heap[B]? = w.heap[B]? := by
  show (w.heap ++ os)[B]? = w.heap[B]?
  rw [Array.getElem?_append_left h]
theorem postC_grow {n : Nat} {ρ : Rho} {s : St} {w : World} (hi : InvC ρ s w) (hn : n ≤ s.length) (k : Nat) (os : Array Obj) : PostC n ρ s w ρ s (Sort.grow (w.drewN k) os) := by
  have hsz : w.heap.size ≤ (Sort.grow (w.drewN k) os).heap.size := by
    show w.heap.size ≤ (w.heap ++ os).size
    simp
  exact ⟨⟨hi.hr.more hsz (grow_old w k os), hi.dom⟩, fun _ _ => rfl, fun _ _ _ e => e, hn, rfl, rfl, rfl, hsz, fun B hB hF => ⟨grow_old w k os B hB, hF⟩, fun _ _ h => h, fun _ _ _ e => .inl e⟩
/-- A table that the program's text lays stands in each world of a call. -/
theorem tabIs_of_hr {P : Program} {ρ : Rho} {h : Hp} {w : World} {name : String} {k : IntKind} {zs : List Int} {g : Nat} (hr : HR ρ h w) (hg : P.globalNamed name = some g) (hf : (g, zs.map fun z => Value.int k z) ∈ Glob.facts) : Lib.TabIs P w name k zs := by
  obtain ⟨⟨c, t, hc⟩, _⟩ := hr.glob _ hf
  unfold Lib.TabIs World.var?
  rw [hg]
  simp only [Option.bind_some]
  rw [hc]
/-- A value that is handed in: a number of its kind, a number, a text. -/
theorem open_val {H : Type} {enc : TypeId × Value → H} {P : Program} {w : World} {base : Nat} {spare : Nat → Bool} {held : Bool} {r : Reach} {b0 : Nat} {t : TypeId} {f0 f1 f2 : Field} {v : Value} {d : DataW H} {p : List MemPlace}
    (hs : P.underlying t = some (.struct #[f0, f1, f2])) (hone : Deep.oneCellFields P #[f0, f1, f2] = true) (hC : P.cellsOf t = 3)
    (h0 : P.underlying f0.type = some (.int .i64)) (h1 : P.underlying f1.type = some (.int .i64)) (h2 : P.underlying f2.type = some .string)
    (hv : Value.okWide P w r b0 t v) (h : DataW.Trod enc P w base spare held t v d p) :
    ∃ (a b : Int) (c : List UInt8), v = .agg #[.int .i64 a, .int .i64 b, .string ⟨c.toArray⟩] ∧ (Lit.int .i64 a).wf = true ∧ (Lit.int .i64 b).wf = true := by
  obtain ⟨v0, v1, v2, y0, y1, y2, n, rfl, _, _, k0, k1, k2⟩ := Joins.open_agg3 hs hone hC hv h
  obtain ⟨a, e0, _, w0⟩ := DataW.trod_int h0 k0
  obtain ⟨b, e1, _, w1⟩ := DataW.trod_int h1 k1
  obtain ⟨c, e2, _, _⟩ := DataW.trod_string h2 k2
  simp only [List.cons.injEq, and_true] at e0 e1 e2
  subst e0; subst e1; subst e2
  exact ⟨a, b, c.data.toList, rfl, w0, w1⟩
theorem in64_wf {n : Int} (h : (Lit.int .i64 n).wf = true) : -9223372036854775808 ≤ n ∧ n ≤ 9223372036854775807 := wf_i64 h
theorem wf_u8 {n : Int} (h : (Lit.int .u8 n).wf = true) : 0 ≤ n ∧ n ≤ 255 := by
  simp [Lit.wf, IntKind.min, IntKind.max, IntKind.signed, IntKind.bits] at h
  omega
/-- The block of a table that the row lists. -/
theorem glob_of_tab {P : Program} {W : World} {name : String} {k : IntKind} {zs : List Int} {g : Nat} (hg : P.globalNamed name = some g) (h : Lib.TabIs P W name k zs) : ∃ c t, W.heap[g]? = some (.cells (zs.map fun z => Value.int k z).toArray c t) := by
  unfold Lib.TabIs World.var? at h
  rw [hg] at h
  simp only [Option.bind_some] at h
  split at h
  · rename_i cs c t e
    cases h
    exact ⟨c, t, e⟩
  · cases h
end Go.Sy
