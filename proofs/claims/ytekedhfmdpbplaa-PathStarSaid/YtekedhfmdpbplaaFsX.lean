/- Ways, told as plain reckoning; closed reckonings that stay small. -/
import Derived.Test.YtekedhfmdpbplaaPvPb
import Derived.Test.YtekedhfmdpbplaaSySelf
import Derived.Test.YtekedhfmdpbplaaPoM
import Derived.Test.YtekedhfmdpbplaaBg9
import Derived.KernelRfl
set_option linter.unusedSimpArgs false
set_option linter.unusedVariables false
set_option maxRecDepth 100000
namespace Go.Sy
open Go
def eqL {β : Type} (f : β → β → Bool) : List β → List β → Bool
  | [], [] => true
  | a :: x, b :: y => f a b && eqL f x y
  | _, _ => false
theorem eqL_eq {β : Type} {f : β → β → Bool} (hf : ∀ a b, f a b = true → a = b) : ∀ x y, eqL f x y = true → x = y
  | [], [], _ => rfl
  | [], _ :: _, h => by cases h
  | _ :: _, [], h => by cases h
  | a :: x, b :: y, h => by
    simp only [eqL, Bool.and_eq_true] at h
    rw [hf a b h.1, eqL_eq hf x y h.2]
def eqD0 (a b : D) : Bool := match a, b with
  | .nul, .nul => true
  | .bool a, .bool b => !(a ^^ b)
  | .int a, .int b => decide (a = b)
  | .str a, .str b => eqBytes a b
  | _, _ => false
theorem eqD0_eq (a b : D) (h : eqD0 a b = true) : a = b := by
  unfold eqD0 at h
  split at h
  · rfl
  · rename_i a b; cases a <;> cases b <;> simp at h <;> rfl
  · rw [of_decide_eq_true h]
  · rw [eqBytes_iff.1 h]
  · cases h
def eqDs (f : D → D → Bool) (a b : D) : Bool := match a, b with
  | .agg x, .agg y => eqL f x y
  | .list x, .list y => eqL f x y
  | a, b => eqD0 a b
theorem eqDs_eq {f : D → D → Bool} (hf : ∀ a b, f a b = true → a = b) (a b : D) (h : eqDs f a b = true) : a = b := by
  unfold eqDs at h
  split at h
  · rw [eqL_eq hf _ _ h]
  · rw [eqL_eq hf _ _ h]
  · exact eqD0_eq _ _ h
def eqD4 : D → D → Bool := eqDs (eqDs (eqDs (eqDs eqD0)))
theorem eqD4_eq (a b : D) (h : eqD4 a b = true) : a = b := eqDs_eq (eqDs_eq (eqDs_eq (eqDs_eq eqD0_eq))) a b h
/-- A schema, a table's name, its ways. -/
abbrev AllT := List (List D × List UInt8 × List D)
def lookM : AllT → List D → List UInt8 → Option (List D)
  | [], _, _ => none
  | x :: r, w, c => match eqBytes x.2.1 c && eqL eqD4 x.1 w with
    | true => some x.2.2
    | false => lookM r w c
theorem lookM_mem : ∀ {tab : AllT} {w : List D} {c : List UInt8} {L : List D}, lookM tab w c = some L → (w, c, L) ∈ tab
  | [], _, _, _, h => by cases h
  | (w0, c0, L0) :: r, w, c, L, h => by
    simp only [lookM] at h
    split at h
    · rename_i hq
      simp only [Bool.and_eq_true] at hq
      obtain rfl := eqBytes_iff.1 hq.1
      obtain rfl := eqL_eq eqD4_eq _ _ hq.2
      cases h
      exact List.mem_cons_self ..
    · exact List.mem_cons_of_mem _ (lookM_mem h)
noncomputable def allM (tab : AllT) (F : Spec) : Spec := ⟨[], fun args s => match args, s with
  | [.ptr (some (a, b)), .str c], [.cells [.tsl false e x y n .tight], .tbl false e' w] => match lookM tab w c with
    | some L => .ok (Nat.beq a 0 && (Nat.beq b 0 && (Sh.beq e shTab && (Nat.beq x 1 && (Nat.beq y 0 && (Nat.beq n w.length && Sh.beq e' shTab)))))) (.fz false (.slice .str) L) [.cells [.tsl false shTab 1 0 n .tight], .tbl false shTab w] []
    | none => F.f [.ptr (some (a, b)), .str c] [.cells [.tsl false e x y n .tight], .tbl false e' w]
  | args, s => F.f args s⟩
theorem allM_ok {P : Program} {g : FuncId} {tab : AllT} {F : Spec} (h : ∀ x ∈ tab, Comes P g [.ptr (some (0, 0)), .str x.2.1] [.cells [.tsl false shTab 1 0 x.1.length .tight], .tbl false shTab x.1] (.fz false (.slice .str) x.2.2) [.cells [.tsl false shTab 1 0 x.1.length .tight], .tbl false shTab x.1])
    (hF : SpecOk P g F.f) : SpecOk P g (allM tab F).f := specOk_comes fun args s v s' tch e => by
  simp only [allM] at e
  split at e
  · rename_i a b c e0 x y n e1 w
    split at e
    · rename_i L hL
      obtain ⟨hg, rfl, rfl, rfl⟩ := run_ok e
      simp only [Bool.and_eq_true] at hg
      obtain ⟨h0, h1, h2, h3, h4, h5, h6⟩ := hg
      obtain rfl := Nat.eq_of_beq_eq_true h0
      obtain rfl := Nat.eq_of_beq_eq_true h1
      obtain rfl := Sh.beq_eq _ _ h2
      obtain rfl := Nat.eq_of_beq_eq_true h3
      obtain rfl := Nat.eq_of_beq_eq_true h4
      obtain rfl := Nat.eq_of_beq_eq_true h5
      obtain rfl := Sh.beq_eq _ _ h6
      exact h _ (lookM_mem hL)
    · exact ⟨hF.len _ _ _ _ _ e, hF.calls _ _ _ _ _ e⟩
  · exact ⟨hF.len _ _ _ _ _ e, hF.calls _ _ _ _ _ e⟩
/-- A schema, a table's name, ways, what they determine. -/
abbrev ClsT := List (List D × List UInt8 × List D × List D)
def lookC2 : ClsT → List D → List UInt8 → List D → Option (List D)
  | [], _, _, _ => none
  | x :: r, w, c, F => match eqBytes x.2.1 c && (eqL eqD4 x.2.2.1 F && eqL eqD4 x.1 w) with
    | true => some x.2.2.2
    | false => lookC2 r w c F
theorem lookC2_mem : ∀ {tab : ClsT} {w : List D} {c : List UInt8} {F L : List D}, lookC2 tab w c F = some L → (w, c, F, L) ∈ tab
  | [], _, _, _, _, h => by cases h
  | (w0, c0, F0, L0) :: r, w, c, F, L, h => by
    simp only [lookC2] at h
    split at h
    · rename_i hq
      simp only [Bool.and_eq_true] at hq
      obtain rfl := eqBytes_iff.1 hq.1
      obtain rfl := eqL_eq eqD4_eq _ _ hq.2.1
      obtain rfl := eqL_eq eqD4_eq _ _ hq.2.2
      cases h
      exact List.mem_cons_self ..
    · exact List.mem_cons_of_mem _ (lookC2_mem h)
def closM (tab : ClsT) : Spec := ⟨[.keep, .keep, .data (.slice (.slice .str))], fun args s => match args, s with
  | [.ptr (some (a, b)), .str c, .fz false e2 F], [.cells [.tsl false e x y n .tight], .tbl false e' w] => match lookC2 tab w c F with
    | some L => .ok (Nat.beq a 0 && (Nat.beq b 0 && (Sh.beq e shTab && (Nat.beq x 1 && (Nat.beq y 0 && (Nat.beq n w.length && (Sh.beq e' shTab && Sh.beq e2 (.slice .str)))))))) (.fz false (.slice .str) L) [.cells [.tsl false shTab 1 0 n .tight], .tbl false shTab w] []
    | none => .fail
  | _, _ => .fail⟩
theorem closM_ok {P : Program} {g : FuncId} {tab : ClsT} (h : ∀ x ∈ tab, Comes P g [.ptr (some (0, 0)), .str x.2.1, .fz false (.slice .str) x.2.2.1] [.cells [.tsl false shTab 1 0 x.1.length .tight], .tbl false shTab x.1] (.fz false (.slice .str) x.2.2.2) [.cells [.tsl false shTab 1 0 x.1.length .tight], .tbl false shTab x.1]) : SpecOk P g (closM tab).f := specOk_comes fun args s v s' tch e => by
  simp only [closM] at e
  split at e
  · rename_i a b c e2 F e0 x y n e1 w
    split at e
    · rename_i L hL
      obtain ⟨hg, rfl, rfl, rfl⟩ := run_ok e
      simp only [Bool.and_eq_true] at hg
      obtain ⟨h0, h1, h2, h3, h4, h5, h6, h7⟩ := hg
      obtain rfl := Nat.eq_of_beq_eq_true h0
      obtain rfl := Nat.eq_of_beq_eq_true h1
      obtain rfl := Sh.beq_eq _ _ h2
      obtain rfl := Nat.eq_of_beq_eq_true h3
      obtain rfl := Nat.eq_of_beq_eq_true h4
      obtain rfl := Nat.eq_of_beq_eq_true h5
      obtain rfl := Sh.beq_eq _ _ h6
      obtain rfl := Sh.beq_eq _ _ h7
      exact h _ (lookC2_mem hL)
    · cases e
  · cases e
/-- Two ways held against one another. -/
def pcmpG : Spec := ⟨[], fun args s => match args, s with
  | [.fz false e l, .fz false e' m], [] => .ok (Sh.beq e .str && (Sh.beq e' .str && shortL l)) (.int .i64 (rowT l m)) [] []
  | _, _ => .fail⟩
/-- The column at a way's end. -/
def pcolG : Spec := ⟨[], fun args s => match args, s with
  | [.ptr (some (a, b)), .str t, .fz false e2 p], [.cells [.tsl false e x y n .tight], .tbl false e' w] => .ok (Nat.beq a 0 && (Nat.beq b 0 && (Sh.beq e shTab && (Nat.beq x 1 && (Nat.beq y 0 && (Nat.beq n w.length && (Sh.beq e' shTab && (wB w && Sh.beq e2 .str))))))))
      (.tup [.agg [.str ((colW w t p).1.fld 0).asStr, .int .i64 ((colW w t p).1.fld 1).asInt, .bool ((colW w t p).1.fld 2).asBool, .str ((colW w t p).1.fld 3).asStr], .str (colW w t p).2.1, .int .i64 (colW w t p).2.2])
      [.cells [.tsl false shTab 1 0 n .tight], .tbl false shTab w] []
  | _, _ => .fail⟩
end Go.Sy
namespace Go.Sy
open Go
/-- All ways of at most n names. -/
def waysN (w : List D) : Nat → List UInt8 → List (List (List UInt8))
  | 0, _ => []
  | n + 1, t => match hasN t w with
    | false => []
    | true => ((tabAt w t).fld 1).els.flatMap fun c => [(c.fld 0).asStr] :: (match eqBytes (c.fld 3).asStr [] with
      | true => []
      | false => (waysN w n (c.fld 3).asStr).map fun q => (c.fld 0).asStr :: q)
/-- Each column is found by its name. -/
def ColsU (w : List D) : Prop := ∀ t ∈ w, ∀ c ∈ (t.fld 1).els, colAt (t.fld 1).els (c.fld 0).asStr = c
theorem colAt_mem {l : List D} {n : List UInt8} (h : hasN n l = true) : colAt l n ∈ l ∧ ((colAt l n).fld 0).asStr = n := by
  have h' := of_decide_eq_true h
  rcases ixI_cases (nmIs n) l with ⟨k, k1, _, k3, e⟩ | ⟨_, e⟩
  · unfold colAt
    rw [e, Int.toNat_natCast]
    refine ⟨?_, eqBytes_iff.1 k3⟩
    rw [getD_at k1]
    exact List.getElem_mem k1
  · omega
theorem hasN_mem {l : List D} {c : D} (h : c ∈ l) : hasN (c.fld 0).asStr l = true := by
  obtain ⟨i, hi, rfl⟩ := List.getElem_of_mem h
  rcases ixI_cases (nmIs ((l[i]).fld 0).asStr) l with ⟨k, k1, _, _, e⟩ | ⟨h2, e⟩
  · unfold hasN; rw [e]; exact decide_eq_true (by omega)
  · have := h2 i hi
    rw [getD_at hi] at this
    unfold nmIs at this
    rw [eqBytes_refl] at this
    cases this
theorem walk_ways (w : List D) (hU : ColsU w) : ∀ (p : List D) (n : Nat) (t : List UInt8), p ≠ [] → p.length ≤ n → ((walkW w t p).2.2 = 0 ↔ p.map D.asStr ∈ waysN w n t)
  | [], _, _, h, _ => absurd rfl h
  | x :: r, 0, _, _, h => by simp at h
  | x :: r, n + 1, t, _, hl => by
    rw [walkW_cons, waysN]
    cases ht : hasN t w with
    | false => simp
    | true =>
      have hT := tabAt_mem ht
      simp only [cond_true, List.mem_flatMap, List.map_cons]
      cases hx : hasN x.asStr ((tabAt w t).fld 1).els with
      | false =>
        simp only [cond_false]
        constructor
        · intro h; exact absurd h (by decide)
        · rintro ⟨c, hc, h⟩
          have hn := hasN_mem hc
          have : (c.fld 0).asStr = x.asStr := by
            rcases List.mem_cons.1 h with h | h
            · injection h with h1 _; exact h1.symm
            · split at h
              · cases h
              · rw [List.mem_map] at h
                obtain ⟨q, _, hq⟩ := h
                injection hq with h1 _
          rw [this, hx] at hn
          cases hn
      | true =>
        obtain ⟨m1, m2⟩ := colAt_mem hx
        have huni : ∀ c ∈ ((tabAt w t).fld 1).els, (c.fld 0).asStr = x.asStr → c = colAt ((tabAt w t).fld 1).els x.asStr := fun c hc e => by rw [← e]; exact (hU _ hT c hc).symm
        generalize colAt ((tabAt w t).fld 1).els x.asStr = c0 at m1 m2 huni ⊢
        cases r with
        | nil =>
          simp only [List.isEmpty_nil, cond_true, List.map_nil, true_iff]
          exact ⟨c0, m1, by rw [m2]; exact List.mem_cons_self ..⟩
        | cons y r =>
          simp only [List.isEmpty_cons, cond_false, cond_true]
          have ih := walk_ways w hU (y :: r) n (c0.fld 3).asStr (by simp) (by simpa using hl)
          cases he : eqBytes (c0.fld 3).asStr [] with
          | true =>
            simp only [cond_true]
            constructor
            · intro h; exact absurd h (by decide)
            · rintro ⟨c, hc, h⟩
              rcases List.mem_cons.1 h with h | h
              · injection h with _ h2; cases h2
              · cases he' : eqBytes (c.fld 3).asStr [] with
                | true => rw [he'] at h; cases h
                | false =>
                  rw [he'] at h
                  simp only [List.mem_map] at h
                  obtain ⟨q, _, hq⟩ := h
                  injection hq with h1 _
                  rw [huni c hc h1] at he'
                  rw [he'] at he
                  cases he
          | false =>
            simp only [cond_false]
            rw [ih]
            constructor
            · intro h
              refine ⟨c0, m1, List.mem_cons_of_mem _ ?_⟩
              rw [he]
              simp only [List.mem_map]
              exact ⟨_, h, by rw [m2]⟩
            · rintro ⟨c, hc, h⟩
              rcases List.mem_cons.1 h with h | h
              · injection h with _ h2; cases h2
              · cases he' : eqBytes (c.fld 3).asStr [] with
                | true => rw [he'] at h; cases h
                | false =>
                  rw [he'] at h
                  simp only [List.mem_map] at h
                  obtain ⟨q, hq1, hq⟩ := h
                  injection hq with h1 h2
                  rw [huni c hc h1] at hq1
                  rw [h2] at hq1
                  exact hq1
/-- Ways of texts: the same ones in both lists. -/
def hasB (l : List (List (List UInt8))) (q : List (List UInt8)) : Bool := l.any fun r => eqL eqBytes r q
theorem hasB_iff {l : List (List (List UInt8))} {q : List (List UInt8)} : hasB l q = true ↔ q ∈ l := by
  unfold hasB
  rw [List.any_eq_true]
  constructor
  · rintro ⟨r, hr, h⟩
    rw [← eqL_eq (fun a b h => eqBytes_iff.1 h) _ _ h]
    exact hr
  · intro h
    refine ⟨q, h, ?_⟩
    have : ∀ x : List (List UInt8), eqL eqBytes x x = true := by
      intro x
      induction x with
      | nil => rfl
      | cons a x ih => simp only [eqL, eqBytes_refl, ih, Bool.and_self]
    exact this q
def sameB (l m : List (List (List UInt8))) : Bool := l.all (hasB m) && m.all (hasB l)
theorem sameB_iff {l m : List (List (List UInt8))} (h : sameB l m = true) (q : List (List UInt8)) : q ∈ l ↔ q ∈ m := by
  unfold sameB at h
  simp only [Bool.and_eq_true, List.all_eq_true] at h
  exact ⟨fun hq => hasB_iff.1 (h.1 q hq), fun hq => hasB_iff.1 (h.2 q hq)⟩
/-- The ways of a table, of some that are known. -/
def lookX : AllT → List UInt8 → List D
  | [], _ => []
  | x :: r, c => bif eqBytes x.2.1 c then x.2.2 else lookX r c
def nameX (tab : AllT) (c : List UInt8) : Bool := tab.any fun x => eqBytes x.2.1 c
def allX (tab : AllT) : Spec := ⟨[], fun args s => match args, s with
  | [.ptr (some (a, b)), .str c], [.cells [.tsl false e x y n .tight], .tbl false e' w] => .ok (Nat.beq a 0 && (Nat.beq b 0 && (Sh.beq e shTab && (Nat.beq x 1 && (Nat.beq y 0 && (Nat.beq n w.length && (Sh.beq e' shTab && (tab.all (fun x => eqL eqD4 x.1 w) && nameX tab c))))))))
      (.fz false (.slice .str) (lookX tab c)) [.cells [.tsl false shTab 1 0 n .tight], .tbl false shTab w] []
  | _, _ => .fail⟩
theorem lookX_mem : ∀ {tab : AllT} {c : List UInt8}, nameX tab c = true → ∃ x ∈ tab, x.2.1 = c ∧ lookX tab c = x.2.2
  | [], _, h => by cases h
  | x :: r, c, h => by
    unfold lookX
    cases he : eqBytes x.2.1 c with
    | true => exact ⟨x, List.mem_cons_self .., eqBytes_iff.1 he, rfl⟩
    | false =>
      have h' : nameX r c = true := by
        unfold nameX at h ⊢
        rw [List.any_cons, he, Bool.false_or] at h
        exact h
      obtain ⟨y, h1, h2, h3⟩ := lookX_mem h'
      exact ⟨y, List.mem_cons_of_mem _ h1, h2, h3⟩
theorem allX_ok {P : Program} {g : FuncId} {tab : AllT} (h : ∀ x ∈ tab, Comes P g [.ptr (some (0, 0)), .str x.2.1] [.cells [.tsl false shTab 1 0 x.1.length .tight], .tbl false shTab x.1] (.fz false (.slice .str) x.2.2) [.cells [.tsl false shTab 1 0 x.1.length .tight], .tbl false shTab x.1]) : SpecOk P g (allX tab).f := specOk_comes fun args s v s' tch e => by
  simp only [allX] at e
  split at e
  · rename_i a b c e0 x y n e1 w
    obtain ⟨hg, rfl, rfl, rfl⟩ := run_ok e
    simp only [Bool.and_eq_true] at hg
    obtain ⟨h0, h1, h2, h3, h4, h5, h6, h7, h8⟩ := hg
    obtain rfl := Nat.eq_of_beq_eq_true h0
    obtain rfl := Nat.eq_of_beq_eq_true h1
    obtain rfl := Sh.beq_eq _ _ h2
    obtain rfl := Nat.eq_of_beq_eq_true h3
    obtain rfl := Nat.eq_of_beq_eq_true h4
    obtain rfl := Nat.eq_of_beq_eq_true h5
    obtain rfl := Sh.beq_eq _ _ h6
    obtain ⟨z, z1, z2, z3⟩ := lookX_mem h8
    have hw := eqL_eq eqD4_eq _ _ (List.all_eq_true.1 h7 z z1)
    have hz := h z z1
    rw [hw, z2] at hz
    rw [z3]
    exact hz
  · cases e
end Go.Sy
namespace Go.Sy
open Go
section
universe u
variable {α : Sort u}
def zInt (n : Int) (k : Int → α) : α := match n with
  | .ofNat m => fNat m fun m => k (.ofNat m)
  | .negSucc m => fNat m fun m => k (.negSucc m)
theorem zInt_eq (n : Int) (k : Int → α) : zInt n k = k n := by
  cases n with
  | ofNat m => exact fNat_eq m fun m => k (.ofNat m)
  | negSucc m => exact fNat_eq m fun m => k (.negSucc m)
noncomputable def zStr (s : List UInt8) (k : List UInt8 → α) : α := fL (fun a k => k a) s k
theorem zStr_eq (s : List UInt8) (k : List UInt8 → α) : zStr s k = k s := fL_eq (fun _ _ => rfl) s k
def zBool (b : Bool) (k : Bool → α) : α := match b with
  | true => k true
  | false => k false
theorem zBool_eq (b : Bool) (k : Bool → α) : zBool b k = k b := by cases b <;> rfl
noncomputable def zD0 (d : D) (k : D → α) : α := match d with
  | .nul => k .nul
  | .bool b => zBool b fun b => k (.bool b)
  | .int n => zInt n fun n => k (.int n)
  | .str s => zStr s fun s => k (.str s)
  | d => k d
theorem zD0_eq (d : D) (k : D → α) : zD0 d k = k d := by unfold zD0; split <;> simp only [zBool_eq, zInt_eq, zStr_eq]
noncomputable def zD1 (d : D) (k : D → α) : α := match d with
  | .agg l => fL zD0 l fun l => k (.agg l)
  | .list l => fL zD0 l fun l => k (.list l)
  | d => zD0 d k
noncomputable def zD2 (d : D) (k : D → α) : α := match d with
  | .agg l => fL zD1 l fun l => k (.agg l)
  | .list l => fL zD1 l fun l => k (.list l)
  | d => zD0 d k
noncomputable def zD3 (d : D) (k : D → α) : α := match d with
  | .agg l => fL zD2 l fun l => k (.agg l)
  | .list l => fL zD2 l fun l => k (.list l)
  | d => zD0 d k
noncomputable def zD4 (d : D) (k : D → α) : α := match d with
  | .agg l => fL zD3 l fun l => k (.agg l)
  | .list l => fL zD3 l fun l => k (.list l)
  | d => zD0 d k
noncomputable def zD5 (d : D) (k : D → α) : α := match d with
  | .agg l => fL zD4 l fun l => k (.agg l)
  | .list l => fL zD4 l fun l => k (.list l)
  | d => zD0 d k
theorem zD1_eq (d : D) (k : D → α) : zD1 d k = k d := by unfold zD1; split <;> simp only [fL_eq zD0_eq, zD0_eq]
theorem zD2_eq (d : D) (k : D → α) : zD2 d k = k d := by unfold zD2; split <;> simp only [fL_eq zD1_eq, zD0_eq]
theorem zD3_eq (d : D) (k : D → α) : zD3 d k = k d := by unfold zD3; split <;> simp only [fL_eq zD2_eq, zD0_eq]
theorem zD4_eq (d : D) (k : D → α) : zD4 d k = k d := by unfold zD4; split <;> simp only [fL_eq zD3_eq, zD0_eq]
theorem zD5_eq (d : D) (k : D → α) : zD5 d k = k d := by unfold zD5; split <;> simp only [fL_eq zD4_eq, zD0_eq]
noncomputable def zAV0 (v : AV) (k : AV → α) : α := match v with
  | .bool b => zBool b fun b => k (.bool b)
  | .int kd n => zInt n fun n => k (.int kd n)
  | .str s => zStr s fun s => k (.str s)
  | .sl b off len cap => fNat b fun b => fNat off fun off => fNat len fun len => fNat cap fun cap => k (.sl b off len cap)
  | .fz nn e l => fL zD5 l fun l => k (.fz nn e l)
  | .tsl nn e b off len cap => fNat b fun b => fNat off fun off => fNat len fun len => fCap cap fun cap => k (.tsl nn e b off len cap)
  | v => fAV0 v k
theorem zAV0_eq (v : AV) (k : AV → α) : zAV0 v k = k v := by unfold zAV0; split <;> simp only [zBool_eq, zInt_eq, zStr_eq, fNat_eq, fCap_eq, fL_eq zD5_eq, fAV0_eq]
noncomputable def zAV1 (v : AV) (k : AV → α) : α := match v with
  | .agg cs => fL zAV0 cs fun cs => k (.agg cs)
  | .tup vs => fL zAV0 vs fun vs => k (.tup vs)
  | .fn f x y => fL zAV0 x fun x => fL zAV0 y fun y => k (.fn f x y)
  | v => zAV0 v k
theorem zAV1_eq (v : AV) (k : AV → α) : zAV1 v k = k v := by unfold zAV1; split <;> simp only [fL_eq zAV0_eq, zAV0_eq]
noncomputable def zAV2 (v : AV) (k : AV → α) : α := match v with
  | .tup vs => fL zAV1 vs fun vs => k (.tup vs)
  | v => zAV1 v k
theorem zAV2_eq (v : AV) (k : AV → α) : zAV2 v k = k v := by unfold zAV2; split <;> simp only [fL_eq zAV1_eq, zAV1_eq]
noncomputable def zEnt (x : Ent) (k : Ent → α) : α := match x with
  | .cells cs => fL zAV1 cs fun cs => k (.cells cs)
  | .tbl ro e l => zBool ro fun ro => fL zD5 l fun l => k (.tbl ro e l)
  | .dead => k .dead
theorem zEnt_eq (v : Ent) (k : Ent → α) : zEnt v k = k v := by unfold zEnt; split <;> simp only [fL_eq zAV1_eq, fL_eq zD5_eq, zBool_eq]
noncomputable def zSt (s : St) (k : St → α) : α := fL zEnt s k
theorem zSt_eq (s : St) (k : St → α) : zSt s k = k s := fL_eq zEnt_eq s k
end
noncomputable def zRT : RT → RT
  | .fail => .fail
  | .ok g v s tch => zAV2 v fun v => zSt s fun s => .ok g v s tch
  | .br b x y => .br b (zRT x) (zRT y)
theorem zRT_eq : ∀ r : RT, zRT r = r
  | .fail => rfl
  | .ok g v s tch => by unfold zRT; simp only [zAV2_eq, zSt_eq]
  | .br b x y => by unfold zRT; rw [zRT_eq x, zRT_eq y]
noncomputable def zF (F : Spec) : Spec := ⟨F.args, fun args s => zRT (F.f args s)⟩
theorem zF_eq (F : Spec) : zF F = F := by unfold zF; simp only [zRT_eq]
theorem zF_ok {P : Program} {g : FuncId} {F : Spec} (h : SpecOk P g F.f) : SpecOk P g (zF F).f := by rw [zF_eq]; exact h
/-- Functions by number, as `selfs`. -/
noncomputable def selfsZ (P : Program) (L : Nat) : List FuncId → (FuncId → Option Spec) → FuncId → Option Spec
  | [], pr => pr
  | g :: gs, pr => selfsZ P L gs (addP g (zF (selfF P pr L g)) pr)
theorem selfsZ_ok {P : Program} (ok : ProgOk P) {L : Nat} : ∀ (gs : List FuncId) (pr : FuncId → Option Spec), PrOk P pr → distincts P gs = true → PrOk P (selfsZ P L gs pr)
  | [], pr, h, _ => h
  | g :: gs, pr, h, hd => by
    simp only [distincts, Bool.and_eq_true] at hd
    exact selfsZ_ok ok gs _ (prOk_add (zF_ok (self_ok ok h hd.1)) h) hd.2
end Go.Sy
namespace Go.Proofs.Ytekedhfmdpbplaa
open Go Go.Sy
attribute [local irreducible] bodyK roundK cutK
noncomputable def pr_aaFdA1 : FuncId → Option Sy.Spec := addP 109 (cloneDF .str) noP
theorem pr_aaFdA1_k : PrOk Try.prog pr_aaFdA1 := prOk_add clPth_ok prOk_none
noncomputable def behindP_t0r (l0 : List D) (c1 : List UInt8) : RT :=
  RT.br (l0.length.blt (1000000 : Nat))
    (RT.br ((((3 : Nat) * (l0.length + (1 : Nat)) + (2000 : Nat)) * (16 : Nat)).ble (281474976710656 : Nat) && ((0 : Nat) + l0.length).ble l0.length)
     (RT.br (((0 : Nat) + (l0.length + (1 : Nat))).ble (List.take l0.length (List.drop (0 : Nat) l0) ++ [D.str c1]).length && true)
      (okL (AV.fz false Sh.str (List.take (l0.length + (1 : Nat)) (List.drop (0 : Nat) (List.take l0.length (List.drop (0 : Nat) l0) ++ [D.str c1])))) ([]))
      (RT.fail))
     (RT.fail))
    (RT.fail)
theorem behindP_t0r_b (l0 : List D) (c1 : List UInt8) (K : AV → St → Prop) : bodyK Try.prog pr_aaFdA1 noL 100 85 [.data (.slice .str)] [.fz false .str l0, .str c1] [] K = RT.K (fun v s _ => K v s) (behindP_t0r l0 c1) := by kernel_rfl
noncomputable def behindP_t0_V0 (l0 : List D) (c1 : List UInt8) : Bool :=
  l0.length.blt (1000000 : Nat) && ((((3 : Nat) * (l0.length + (1 : Nat)) + (2000 : Nat)) * (16 : Nat)).ble (281474976710656 : Nat) && ((0 : Nat) + l0.length).ble l0.length && (((0 : Nat) + (l0.length + (1 : Nat))).ble (List.take l0.length (List.drop (0 : Nat) l0) ++ [D.str c1]).length && true && true))
noncomputable def behindP_t0_V1 (l0 : List D) (c1 : List UInt8) : List D :=
  List.take (l0.length + (1 : Nat)) (List.drop (0 : Nat) (List.take l0.length (List.drop (0 : Nat) l0) ++ [D.str c1]))
noncomputable def behindP_t0 (l0 : List D) (c1 : List UInt8) : RT :=
  RT.br (behindP_t0_V0 l0 c1)
    (okL (Go.Sy.AV.fz (false) (Sh.str) (behindP_t0_V1 l0 c1)) [])
    (RT.fail)
theorem behindP_t0_m (l0 : List D) (c1 : List UInt8) (K : AV → St → Prop) : RT.K (fun v s _ => K v s) (RT.mergeW ([]) (behindP_t0r l0 c1)) = RT.K (fun v s _ => K v s) (behindP_t0 l0 c1) := by kernel_rfl
theorem behindP_t0_b (l0 : List D) (c1 : List UInt8) (K : AV → St → Prop) (h : RT.K (fun v s _ => K v s) (behindP_t0 l0 c1)) : bodyK Try.prog pr_aaFdA1 noL 100 85 [.data (.slice .str)] [.fz false .str l0, .str c1] [] K := Eq.mpr (behindP_t0r_b ..) (mergeW_K (S := []) _ ⟨⟨⟨rfl, trivial⟩, trivial⟩, trivial⟩ (Eq.mpr (behindP_t0_m ..) h))
theorem behindP_t0_lp (hpr : PrOk Try.prog pr_aaFdA1) : LoopsFor Try.prog 85 0 noL := loops_none
noncomputable def behindP : Sy.Spec := ⟨[.data (.slice .str), .keep], fun args s => match args, s with
  | [(.fz false e_0 l0), (.str c1)], [] => .br (Sh.beq e_0 (Sh.str) && (true)) (behindP_t0 l0 c1) .fail
  | _, _ => .fail⟩
theorem behindP_ok : SpecOk Try.prog 85 behindP.f := specOk_comes fun args s v s' tch e => by
  simp only [behindP] at e
  split at e
  · obtain ⟨hg, e⟩ := if_run e
    simp only [Bool.and_eq_true] at hg
    obtain ⟨h_0, _⟩ := hg
    obtain rfl := Sh.beq_eq _ _ h_0
    refine comes_of ok pr_aaFdA1_k (L := 100) (ms := [.data (.slice .str)]) (by kernel_rfl) (behindP_t0_lp pr_aaFdA1_k) ?_
    exact behindP_t0_b (h := K_run e) ..
  · cases e
noncomputable def behindP_pr : FuncId → Option Sy.Spec := addP 85 behindP pr_aaFdA1
theorem behindP_pr_k : PrOk Try.prog behindP_pr := prOk_add behindP_ok pr_aaFdA1_k
theorem pcmpG_ok : SpecOk Try.prog 31 pcmpG.f := specOk_comes fun args s v s' tch e => by
  simp only [pcmpG] at e
  split at e
  · rename_i e0 l e1 m
    obtain ⟨hg, rfl, rfl, rfl⟩ := run_ok e
    simp only [Bool.and_eq_true] at hg
    obtain ⟨h0, h1, h2⟩ := hg
    obtain rfl := Sh.beq_eq _ _ h0
    obtain rfl := Sh.beq_eq _ _ h1
    have h : (pcmpP.f [.fz false .str l, .fz false .str m] []).run = some (.int .i64 (rowT l m), [], []) := by
      have hb : (Sh.beq .str .str && (Sh.beq .str .str && true)) = true := by kernel_rfl
      show RT.run (.br (Sh.beq .str .str && (Sh.beq .str .str && true)) (pcmpP_t0 l m) .fail) = _
      rw [hb]
      unfold pcmpP_t0
      rw [pcmpP_is l m (shortL_lt h2), (scmpP_is l m (shortL_lt h2)).2]
      rfl
    exact ⟨pcmpP_ok.len _ _ _ _ _ h, pcmpP_ok.calls _ _ _ _ _ h⟩
  · cases e
theorem pcolG_ok : SpecOk Try.prog 27 pcolG.f := specOk_comes fun args s v s' tch e => by
  simp only [pcolG] at e
  split at e
  · rename_i a b t e2 p e0 x y n e1 w
    obtain ⟨hg, rfl, rfl, rfl⟩ := run_ok e
    simp only [Bool.and_eq_true] at hg
    obtain ⟨h0, h1, h2, h3, h4, h5, h6, h7, h8⟩ := hg
    obtain rfl := Nat.eq_of_beq_eq_true h0
    obtain rfl := Nat.eq_of_beq_eq_true h1
    obtain rfl := Sh.beq_eq _ _ h2
    obtain rfl := Nat.eq_of_beq_eq_true h3
    obtain rfl := Nat.eq_of_beq_eq_true h4
    obtain rfl := Nat.eq_of_beq_eq_true h5
    obtain rfl := Sh.beq_eq _ _ h6
    obtain rfl := Sh.beq_eq _ _ h8
    obtain ⟨k1, k2⟩ := wB_ok h7
    obtain ⟨c0, c1, c2, c3', c4, c5, c6⟩ := pcolP_is w k1 k2 t p
    have h : (pcolP.f [.ptr (some (0, 0)), .str t, .fz false .str p] [.cells [.tsl false shTab 1 0 w.length .tight], .tbl false shTab w]).run = some (.tup [.agg [.str ((colW w t p).1.fld 0).asStr, .int .i64 ((colW w t p).1.fld 1).asInt, .bool ((colW w t p).1.fld 2).asBool, .str ((colW w t p).1.fld 3).asStr], .str (colW w t p).2.1, .int .i64 (colW w t p).2.2], [.cells [.tsl false shTab 1 0 w.length .tight], .tbl false shTab w], []) := by
      show RT.run (.br (Nat.beq 0 (0 : Nat) && (Nat.beq 0 (0 : Nat) && (Sh.beq .str (Sh.str) && (Sh.beq shTab shTab && (Nat.beq 1 (1 : Nat) && (Nat.beq 0 (0 : Nat) && (Sh.beq shTab shTab && (true)))))))) (pcolP_t0 w.length w t p) .fail) = _
      have hb : (Nat.beq 0 (0 : Nat) && (Nat.beq 0 (0 : Nat) && (Sh.beq .str (Sh.str) && (Sh.beq shTab shTab && (Nat.beq 1 (1 : Nat) && (Nat.beq 0 (0 : Nat) && (Sh.beq shTab shTab && (true)))))))) = true := by kernel_rfl
      rw [hb]
      unfold pcolP_t0
      rw [c0, c1, c2, c3', c4, c5, c6]
      rfl
    exact ⟨pcolP_ok.len _ _ _ _ _ h, pcolP_ok.calls _ _ _ _ _ h⟩
  · cases e
noncomputable def prA10 : FuncId → Option Sy.Spec := addP 26 (zF bothG) (addP 19 (zF findG) (addP 22 (zF scolX) (addP 24 begF prB9)))
theorem prA10_ok : PrOk Try.prog prA10 := prOk_add (zF_ok bothG_ok) (prOk_add (zF_ok findG_ok) (prOk_add (zF_ok (scolX_ok scolG_ok scolN_ok)) (prOk_add beg9_ok prB9_ok)))
def fsA : List FuncId := [97, 79, 54, 31,
  118, 117, 116, 115, 114, 113,
  107, 106, 81, 105, 104, 103, 102, 101, 100, 99, 98,
  80, 80, 80, 56,
  55, 55, 55, 55, 55]
/-- The functions that path.All calls. -/
noncomputable def prA : FuncId → Option Sy.Spec := selfsZ Try.prog 1000 fsA prA10
theorem prA_ok : PrOk Try.prog prA := selfsZ_ok ok _ _ prA10_ok (by kernel_rfl)
def fsC : List FuncId := [60, 82, 62, 61, 84, 108, 83, 63, 64, 40, 39, 59]
noncomputable def prC (tab : AllT) : FuncId → Option Sy.Spec := addP 34 (allM tab (selfF Try.prog prA 1000 34)) (addP 31 (orS pcmpG (selfF Try.prog prA 1000 31)) (addP 27 (zF (orS pcolG (selfF Try.prog prA 1000 27))) (addP 85 (zF behindP) prA)))
theorem prC_ok {tab : AllT} (h : ∀ x ∈ tab, Sy.Comes Try.prog 34 [.ptr (some (0, 0)), .str x.2.1] [.cells [.tsl false shTab 1 0 x.1.length .tight], .tbl false shTab x.1] (.fz false (.slice .str) x.2.2) [.cells [.tsl false shTab 1 0 x.1.length .tight], .tbl false shTab x.1]) : PrOk Try.prog (prC tab) :=
  prOk_add (allM_ok h (self_ok ok prA_ok (by kernel_rfl))) (prOk_add (orS_ok pcmpG_ok (self_ok ok prA_ok (by kernel_rfl))) (prOk_add (zF_ok (orS_ok pcolG_ok (self_ok ok prA_ok (by kernel_rfl)))) (prOk_add (zF_ok behindP_ok) prA_ok)))
noncomputable def prD (tab : AllT) : FuncId → Option Sy.Spec := selfsZ Try.prog 1000 fsC (prC tab)
theorem prD_ok {tab : AllT} (h : ∀ x ∈ tab, Sy.Comes Try.prog 34 [.ptr (some (0, 0)), .str x.2.1] [.cells [.tsl false shTab 1 0 x.1.length .tight], .tbl false shTab x.1] (.fz false (.slice .str) x.2.2) [.cells [.tsl false shTab 1 0 x.1.length .tight], .tbl false shTab x.1]) : PrOk Try.prog (prD tab) := selfsZ_ok ok _ _ (prC_ok h) (by kernel_rfl)
end Go.Proofs.Ytekedhfmdpbplaa
