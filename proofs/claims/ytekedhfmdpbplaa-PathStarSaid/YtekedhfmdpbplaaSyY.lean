/- What a statement's arguments are: data; what is left as it was. -/
import Derived.Test.YtekedhfmdpbplaaSyX
import Derived.Below
import Derived.Deep.Slices
import Derived.ChangeArms
import Derived.WideShapes
set_option linter.unusedSimpArgs false
set_option linter.unusedVariables false
namespace Go.Sy
open Go Go.Deep Go.RowKit
mutual
def datT (P : Program) : Nat → TypeId → Sh → Bool
  | 0, _, _ => false
  | d + 1, t, .bool => match P.underlying t with | some .bool => true | _ => false
  | d + 1, t, .int k => match P.underlying t with | some (.int k') => decide (k' = k) | _ => false
  | d + 1, t, .str => match P.underlying t with | some .string => true | _ => false
  | d + 1, t, .slice e => match P.underlying t with | some (.slice te) => Nat.beq (P.cellsOf te) e.size && (Nat.blt 0 e.size && datT P d te e) | _ => false
  | d + 1, t, .struct fs => match P.underlying t with | some (.struct l) => Nat.beq (P.cellsOf t) (Sh.sizes fs) && datTs P d l.toList fs 0 | _ => false
def datTs (P : Program) : Nat → List Field → List Sh → Nat → Bool
  | 0, _, _, _ => false
  | d + 1, [], [], _ => true
  | d + 1, f :: l, s :: r, off => Nat.beq f.offset off && (Nat.beq (P.cellsOf f.type) s.size && (datT P d f.type s && datTs P d l r (off + s.size)))
  | d + 1, _, _, _ => false
end
mutual
/-- Data whose numbers are in range; texts and slices are not too long. -/
def okD : Sh → D → Prop
  | .bool, _ => True
  | .int k, d => (Lit.int k d.asInt).wf = true
  | .str, d => d.asStr.length ≤ maxLen
  | .slice e, d => d.els.length ≤ maxLen ∧ ∀ x ∈ d.els, okD e x
  | .struct fs, d => okDs fs d 0
def okDs : List Sh → D → Nat → Prop
  | [], _, _ => True
  | f :: fs, d, i => okD f (d.fld i) ∧ okDs fs d (i + 1)
end
theorem add_none {a : Addr} (h : a.spot = none) (n : Nat) : a.add n = ⟨a.block, a.off + n, none⟩ := by
  cases a; simp at h; subst h
  simp only [Addr.add]
  split
  · rename_i hn; subst hn; rfl
  · rfl
def memF (w : World) : Nat → Nat → Option Value := fun B o => w.cell? ⟨B, o, none⟩
local instance inhDY : Inhabited D := ⟨.nul⟩
section
variable {H : Type} {enc : TypeId × Value → H} {P : Program} {w : World} {base : Nat} {spare : Nat → Bool} {held : Bool}
mutual
theorem trod_sh : ∀ (d : Nat) (t : TypeId) (sh : Sh) (fuel : Nat) (cs : List Value) (x : DataW H × List MemPlace), datT P d t sh = true →
    DataW.trod enc P w base spare held fuel t cs = some x → ∃ y : D, RelSh (memF w) sh y cs ∧ okD sh y
  | 0, t, sh, fuel, cs, x, hd, h => by simp [datT] at hd
  | d + 1, t, .bool, fuel, cs, x, hd, h => by
    simp only [datT] at hd
    split at hd
    · rename_i hu
      obtain ⟨b, rfl, _⟩ := DataW.trod_bool hu h
      exact ⟨.bool b, by simp [RelSh, D.asBool], trivial⟩
    · cases hd
  | d + 1, t, .int k, fuel, cs, x, hd, h => by
    simp only [datT] at hd
    split at hd
    · rename_i k' hu
      have := of_decide_eq_true hd
      subst this
      obtain ⟨n, rfl, _, hwf⟩ := DataW.trod_int hu h
      exact ⟨.int n, by simp [RelSh, D.asInt], by simpa only [okD, D.asInt] using hwf⟩
    · cases hd
  | d + 1, t, .str, fuel, cs, x, hd, h => by
    simp only [datT] at hd
    split at hd
    · rename_i hu
      obtain ⟨s, rfl, _, hwf⟩ := DataW.trod_string hu h
      exact ⟨.str s.data.toList, by simp [RelSh, D.asStr], by simpa [okD, D.asStr] using hwf⟩
    · cases hd
  | d + 1, t, .slice e, fuel, cs, x, hd, h => by
    simp only [datT] at hd
    split at hd
    · rename_i te hu
      simp only [Bool.and_eq_true] at hd
      have hsz := Nat.eq_of_beq_eq_true hd.1
      rcases open_slice hu h with ⟨rfl, _⟩ | ⟨a, len, cap, m, n, DD, Pl, rfl, hb, hl, hm, hmm, hx, hel⟩
      · exact ⟨.list [], by simp only [RelSh]; exact ⟨_, rfl, .inl ⟨rfl, rfl, rfl⟩⟩, by simp [okD, D.els]⟩
      · rcases Nat.eq_zero_or_pos len with rfl | hpos
        · exact ⟨.list [], by simp only [RelSh]; exact ⟨_, rfl, .inr (.inr ⟨rfl, a, cap, rfl⟩)⟩, by simp [okD, D.els]⟩
        have hml : len ≤ m := by rw [hmm]; split <;> omega
        have hsp : a.spot = none := by
          obtain ⟨cs', h1, h2⟩ := hel 0 (by omega)
          obtain ⟨_, hlen, hc⟩ := World.cells?_some h1
          have hp : 0 < P.cellsOf te := by have hb0 := hd.2.1; simp only [Nat.blt_eq] at hb0; omega
          have hc0 := hc 0 hp
          rw [List.getElem?_eq_getElem (by omega)] at hc0
          have := World.cell?_spot hc0
          simpa [Addr.add] using this
        obtain ⟨Y, hY⟩ := choose_lt (α := D) (n := len) (p := fun i y => ∃ cs', w.cells? base (a.add (i * P.cellsOf te)) (P.cellsOf te) = some cs' ∧ RelSh (memF w) e y cs' ∧ okD e y) (fun i hi => by
          obtain ⟨cs', h1, h2⟩ := hel i (by omega)
          obtain ⟨_, hlen, hc⟩ := World.cells?_some h1
          obtain ⟨y, hy, hw⟩ := trod_sh d te e n cs' _ hd.2.2 h2
          exact ⟨y, cs', h1, hy, hw⟩)
        refine ⟨.list ((List.range len).map Y), ?_, by
          simp only [okD, D.els, List.length_map, List.length_range]
          refine ⟨by omega, fun x hx => ?_⟩
          obtain ⟨i, hi, rfl⟩ := List.mem_map.1 hx
          obtain ⟨_, _, _, hw⟩ := hY i (List.mem_range.1 hi)
          exact hw⟩
        simp only [RelSh]
        refine ⟨_, rfl, .inr (.inl ⟨a.block, a.off, cap, ?_, by simpa [D.els] using hl, fun i y hi => ?_⟩)⟩
        · have : a = ⟨a.block, a.off, none⟩ := by cases a; simp at hsp; simp [hsp]
          simp only [D.els, List.length_map, List.length_range]
          rw [← this]
        · simp only [D.els] at hi
          have hil : i < len := by
            have := (List.getElem?_eq_some_iff.1 hi).1
            simpa using this
          have hy : y = Y i := by simpa [hil] using hi.symm
          subst hy
          obtain ⟨cs', h1, h2, _⟩ := hY i hil
          obtain ⟨_, hlen, hc⟩ := World.cells?_some h1
          refine ⟨cs', h2, fun j u hj => ?_⟩
          have hjl := (List.getElem?_eq_some_iff.1 hj).1
          have := hc j (by omega)
          rw [hj] at this
          have he : (a.add (i * P.cellsOf te)).add j = ⟨a.block, a.off + i * e.size + j, none⟩ := by
            rw [add_none hsp, add_none rfl, hsz]
          rw [he] at this
          exact this
    · cases hd
  | d + 1, t, .struct fs, fuel, cs, x, hd, h => by
    simp only [datT] at hd
    split at hd
    · rename_i l hu
      simp only [Bool.and_eq_true] at hd
      have hsz := Nat.eq_of_beq_eq_true hd.1
      obtain ⟨xs, n, _, _, hlen, hxs, hf⟩ := DataW.trod_struct hu h
      obtain ⟨ys, hy, hw⟩ := trod_shs d l.toList fs 0 n cs hd.2 (by omega) (fun f hfm => by
        obtain ⟨i, hi, hi'⟩ := List.getElem_of_mem hfm
        have hi2 : i < l.size := by simpa using hi
        have hg : l[i]? = some f := by rw [Array.getElem?_eq_getElem hi2]; simpa using hi'
        have := hf i f hg
        rw [List.getElem?_eq_getElem (by omega)] at this
        exact ⟨_, this⟩)
      refine ⟨.agg ys, ?_, by simpa only [okD, List.nil_append, List.length_nil] using hw []⟩
      simp only [RelSh]
      simpa using hy []
    · cases hd
theorem trod_shs : ∀ (d : Nat) (l : List Field) (fs : List Sh) (off : Nat) (n : Nat) (cs : List Value), datTs P d l fs off = true → cs.length = off + Sh.sizes fs →
    (∀ f ∈ l, ∃ x, DataW.trod enc P w base spare held n f.type ((cs.drop f.offset).take (P.cellsOf f.type)) = some x) → ∃ ys : List D, (∀ pre : List D, RelShs (memF w) fs (.agg (pre ++ ys)) pre.length (cs.drop off)) ∧ ∀ pre : List D, okDs fs (.agg (pre ++ ys)) pre.length
  | 0, l, fs, off, n, cs, hd, hl, h => by simp [datTs] at hd
  | d + 1, [], [], off, n, cs, hd, hl, h => ⟨[], fun pre => by simp only [RelShs]; simp [Sh.sizes] at hl; simp; omega, fun pre => by simp only [okDs]⟩
  | d + 1, f :: l, s :: fs, off, n, cs, hd, hl, h => by
    simp only [datTs, Bool.and_eq_true] at hd
    obtain ⟨h1, h2, h3, h4⟩ := hd
    have h1 := Nat.eq_of_beq_eq_true h1
    have h2 := Nat.eq_of_beq_eq_true h2
    obtain ⟨x, hx⟩ := h f (by simp)
    rw [h1, h2] at hx
    obtain ⟨y, hy, hwy⟩ := trod_sh d f.type s n _ x h3 hx
    simp only [Sh.sizes] at hl
    obtain ⟨ys, hys, hwys⟩ := trod_shs d l fs (off + s.size) n cs h4 (by omega) (fun g hg => h g (by simp [hg]))
    refine ⟨y :: ys, fun pre => ?_, fun pre => ?_⟩
    case refine_2 =>
      simp only [okDs]
      have h0 : (D.agg (pre ++ y :: ys)).fld pre.length = y := by simp [D.fld]
      rw [h0]
      have := hwys (pre ++ [y])
      exact ⟨hwy, by simpa using this⟩
    simp only [RelShs]
    refine ⟨(cs.drop off).take s.size, cs.drop (off + s.size), ?_, ?_, ?_⟩
    · rw [← List.drop_drop, List.take_append_drop]
    · have : (D.agg (pre ++ y :: ys)).fld pre.length = y := by simp [D.fld]
      rw [this]; exact hy
    · have := hys (pre ++ [y])
      simpa using this
  | d + 1, [], s :: fs, off, n, cs, hd, hl, h => by simp [datTs] at hd
  | d + 1, f :: l, [], off, n, cs, hd, hl, h => by simp [datTs] at hd
end
/-- A slice that is handed in, of data. -/
theorem open_fzW {r : Reach} {b0 : Nat} {d : Nat} {t te : TypeId} {e : Sh} {v : Value} {dw : DataW H} {ps : List MemPlace} (hu : P.underlying t = some (.slice te)) (hd : datT P d t (.slice e) = true) (hv : Value.okWide P w r b0 t v) (h : DataW.Trod enc P w base spare held t v dw ps) :
    ∃ l : List D, FzR (memF w) e.size (fun d vs => RelSh (memF w) e d vs) false l v ∧ okD (.slice e) (.list l) := by
  obtain ⟨fuel, h⟩ := h
  obtain ⟨a0, len0, cap0, rfl⟩ := WideShapes.okWide_slice hu hv
  simp only [Value.okWide, hu, Cell.okWide] at hv
  cases d with
  | zero => simp [datT] at hd
  | succ d =>
    simp only [datT, hu, Bool.and_eq_true] at hd
    have hsz := Nat.eq_of_beq_eq_true hd.1
    rcases open_slice hu h with ⟨hc, _⟩ | ⟨a, len, cap, m, n, DD, Pl, hc, hb, hl, hm, hmm, hx, hel⟩
    · simp only [Value.cells, List.cons.injEq, and_true] at hc
      exact ⟨[], .inl ⟨rfl, rfl, hc⟩, by simp [okD, D.els]⟩
    · simp only [Value.cells, List.cons.injEq, and_true] at hc
      rw [hc] at hv ⊢
      simp only [Cell.ok, hu] at hv
      have hsp : a.spot = none := hv.2.2.2.1
      have hml : len ≤ m := by rw [hmm]; split <;> omega
      obtain ⟨Y, hY⟩ := choose_lt (α := D) (n := len) (p := fun i y => ∃ cs', w.cells? base (a.add (i * P.cellsOf te)) (P.cellsOf te) = some cs' ∧ RelSh (memF w) e y cs' ∧ okD e y) (fun i hi => by
        obtain ⟨cs', h1, h2⟩ := hel i (by omega)
        obtain ⟨y, hy, hw⟩ := trod_sh d te e n cs' _ hd.2.2 h2
        exact ⟨y, cs', h1, hy, hw⟩)
      refine ⟨(List.range len).map Y, .inr (.inl ⟨a.block, a.off, cap, ?_, by simpa using hl, fun i y hi => ?_⟩), by
          simp only [okD, D.els, List.length_map, List.length_range]
          refine ⟨by omega, fun x hx => ?_⟩
          obtain ⟨i, hi, rfl⟩ := List.mem_map.1 hx
          obtain ⟨_, _, _, hw⟩ := hY i (List.mem_range.1 hi)
          exact hw⟩
      · have : a = ⟨a.block, a.off, none⟩ := by cases a; simp at hsp; simp [hsp]
        simp only [List.length_map, List.length_range]
        rw [← this]
      · have hil : i < len := by
          have := (List.getElem?_eq_some_iff.1 hi).1
          simpa using this
        have hy : y = Y i := by simpa [hil] using hi.symm
        subst hy
        obtain ⟨cs', h1, h2, _⟩ := hY i hil
        obtain ⟨_, hlen, hc⟩ := World.cells?_some h1
        refine ⟨cs', h2, fun j u hj => ?_⟩
        have hjl := (List.getElem?_eq_some_iff.1 hj).1
        have := hc j (by omega)
        rw [hj] at this
        have he : (a.add (i * P.cellsOf te)).add j = ⟨a.block, a.off + i * e.size + j, none⟩ := by
          rw [add_none hsp, add_none rfl, hsz]
        rw [he] at this
        exact this
theorem open_fz {r : Reach} {b0 : Nat} {d : Nat} {t te : TypeId} {e : Sh} {v : Value} {dw : DataW H} {ps : List MemPlace} (hu : P.underlying t = some (.slice te)) (hd : datT P d t (.slice e) = true) (hv : Value.okWide P w r b0 t v) (h : DataW.Trod enc P w base spare held t v dw ps) :
    ∃ l : List D, FzR (memF w) e.size (fun d vs => RelSh (memF w) e d vs) false l v :=
  (open_fzW hu hd hv h).imp fun _ h => h.1
end
/-- Nothing is known of the heap; all memory is told as it stands. -/
def rho0 (w : World) : Rho := ⟨fun _ => none, memF w⟩
/-- The tables stand in this world. -/
def GlobOk (w : World) : Prop := ∀ x ∈ Glob.facts, ∃ c t, w.heap[x.1]? = some (.cells x.2.toArray c t)
theorem globOk_nil (e : Glob.facts = []) (w : World) : GlobOk w := fun x hx => by rw [e] at hx; cases hx
theorem inv0 {w : World} (hg : GlobOk w) : InvC (rho0 w) [] w where
  hr := {
    cell := fun id B o r x ro cs h => by cases h
    apart := fun i j B o r o' r' x y ro ro' cs cs' _ h => by cases h
    fzh := fun B o v h => h
    fza := fun B o v h id o' r x cs h' => by cases h'
    ent := fun i h => by simp [rho0] at h
    glob := fun x hx => ⟨hg x hx, fun id o' r x cs h' => by cases h'⟩ }
  dom := fun i _ => rfl
theorem below0 {w w' : World} {ρ' : Rho} (h : PostC 0 (rho0 w) [] w ρ' [] w') : Below w.heap.size w w' :=
  ⟨h.os, h.tape, h.output, h.size, fun k hk => (h.frame k hk fun id o r x cs h' => by cases h').1⟩
theorem says_of {P : Program} {g : FuncId} {args : List AV} {vargs : List Value} {w : World} (hg : GlobOk w) (h : Comes P g args [] (.bool true) []) (hr : Rels (rho0 w) args vargs) : Calls P g vargs.toArray w fun e w' => e = .returned (.bool true) ∧ Below w.heap.size w w' :=
  (h.2 (rho0 w) w vargs (inv0 hg) hr).mono fun e w' ⟨u, ρ', he, hp, hu⟩ => ⟨by simp only [Rel] at hu; rw [he, hu], below0 hp⟩
theorem wf_i64 {n : Int} (h : (Lit.int .i64 n).wf = true) : -9223372036854775808 ≤ n ∧ n ≤ 9223372036854775807 := by
  simp [Lit.wf, IntKind.min, IntKind.max, IntKind.signed, IntKind.bits] at h
  omega
end Go.Sy
