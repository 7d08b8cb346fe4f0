/- DictAll: what it comes to. -/
import Derived.Test.YtkfdfenaaidkkaaDictA
import Derived.KernelRfl
set_option linter.unusedSimpArgs false
set_option linter.unusedVariables false
set_option maxRecDepth 100000
namespace Go.Proofs.Ytkfdfenaaidkkaa
open Go Go.Sy
attribute [local irreducible] bodyK roundK
def hW (l : List D) (x : List UInt8) (i : Nat) : Bool := hasB l x && decide (bs l x < i)
def rW (l : List D) (x : List UInt8) (i : Nat) : Int := match hW l x i with
  | true => (bs l x : Int)
  | false => 0
def MWw (x : List UInt8) (op : Int) (m : Nat) (tt : List AV) (st : St) (kk : KS) : Prop := ∃ (w : List D) (i : Nat) (l : List D) (nn : Bool), m + i = l.length ∧ l.length < 1000000 ∧ SS (keysD l) ∧ strsD w = keysD l ∧
  tt = tDw false w x op (rW l x i) (hW l x i) i ∧ st = a1S 43 l nn l.length ∧ kk .normal (tDw false w x op (rW l x l.length) (hW l x l.length) l.length) (a1S 43 l nn l.length)
theorem all_step4 (F1 F2 : LoopS) (x : List UInt8) (op : Int) : ∀ m t s kk, MWw x op m t s kk → roundK Try.prog prAl (addL 0 F1 (addL 2 F2 noL)) 100 3 4 t s (againK 0 4 kDw kDw (fun t' s' => ∃ m', m' < m ∧ MWw x op m' t' s' kk) kk) := by
  rintro m tt st kk ⟨w, i, l, nn, hm, hl, hs, he, rfl, rfl, hk⟩
  have hwl : w.length = l.length := by rw [← strsD_len, he, keysD_len]
  rw [all_w]
  refine br_iff.2 ⟨fun h1 => ?_, fun h1 => ?_⟩
  · have hi : i < l.length := by omega
    have hg := same_get he (i := i) (by omega)
    obtain ⟨g1, g2⟩ := atK_get (l := l) hi
    have g3 : atK l (i : Int) = keyD (l.getD i .nul) := by unfold atK; rw [g1, Int.toNat_natCast]
    rw [Int.toNat_natCast, hg]
    have hb := hasB_at hs hi
    have hbs := bs_at hs hi
    have hr : rankL l (keyD (l.getD i .nul)) = i := by unfold rankL; rw [hb, hbs]
    have hw : IntKind.i64.wrap ((i : Int) + 1) = ((i + 1 : Nat) : Int) := by rw [wrap64 (by omega) (by omega)]; rfl
    have again : ∀ (r : Int) (h : Bool), r = rW l x (i + 1) → h = hW l x (i + 1) → ∃ m', m' < m ∧ MWw x op m' (tDw false w x op r h (i + 1)) (a1S 43 l nn l.length) kk := by
      rintro r h rfl rfl
      exact ⟨m - 1, by omega, w, i + 1, l, nn, by omega, hl, hs, he, rfl, rfl, hk⟩
    rw [hw, hb, hr, g1, g3]
    refine br_t (by (simp only [Bool.and_eq_true, decide_eq_true_eq, and_true]; omega)) (br_t (okM_mk rfl hl) (br_t (okM_mk rfl hl) ?_))
    refine br_mk (fun h => by cases h) (fun _ => br_mk (fun h => by simp at h) (fun _ => br_mk (fun h => by cases h) (fun _ => br_t (by (simp only [Bool.and_eq_true, decide_eq_true_eq, and_true]; omega)) ?_)))
    refine br_mk (fun h => by rw [eqBytes_refl] at h; cases h) (fun _ => br_t (by (simp only [Bool.and_eq_true, decide_eq_true_eq, and_true]; omega)) ?_)
    refine br_mk (fun h => again _ _ ?_ ?_) (fun h => again _ _ ?_ ?_)
    · have e := eqBytes_iff.1 h
      rw [e] at hb hbs
      unfold rW hW
      rw [hb, hbs, decide_eq_true (show i < i + 1 by omega)]
      rfl
    · have e := eqBytes_iff.1 h
      rw [e] at hb hbs
      unfold hW
      rw [hb, hbs, decide_eq_true (show i < i + 1 by omega)]
      rfl
    all_goals
      have hsame : hW l x i = hW l x (i + 1) := by
        unfold hW
        cases hx : hasB l x
        · rfl
        · have hk := hasB_key hx
          have hne : bs l x ≠ i := by
            intro e
            rw [e] at hk
            rw [hk, eqBytes_refl] at h
            cases h
          rw [Bool.true_and, Bool.true_and]
          exact decide_eq_decide.2 (by omega)
    · unfold rW; rw [hsame]
    · exact hsame
  · have hi : i = l.length := by omega
    subst hi
    exact hk
theorem all_comes (o : List D) (x : List UInt8) (op : Int) : Sy.Comes Try.prog 3 [.fz false shOp o, .str x, .int .i64 op] [] (.bool true) [] := by
  have hd : distinctOk Try.prog 3 = true := by kernel_rfl
  refine comes_of ok prAl_ok (L := 100) (ms := []) hd (loops_add (L := 100) (kh := kDw) ok prAl_ok hd (loops_add (L := 100) (kh := kD) ok prAl_ok hd (loops_add (L := 100) (kh := kDi) ok prAl_ok hd loops_none (all_step2 false o (cutS x 10) op)) (all_step false o (cutS x 10) op)) (all_step4 _ _ (cutS x 10) op)) ?_
  refine Eq.mpr (all_b false o x op _ _ _ _) ?_
  have last : ∀ (l w : List D) (nn : Bool), l.length ≤ 50 → SS (keysD l) → strsD w = keysD l → byM (MWw (cutS x 10) op) (tDw false w (cutS x 10) op 0 false 0) (a1S 43 l nn l.length) (contB Try.prog prAl (addL 4 (headG 0 kDw (byM (MWw (cutS x 10) op))) (addL 0 (headG 0 kD (byM (MDa false o (cutS x 10) op))) (addL 2 (headG 0 kDi (byM (MDi false o (cutS x 10) op))) noL))) 100 3 [] [] 4 fun v1 s1 => v1 = .bool true ∧ s1 = []) := by
    intro l w nn h1 h2 h3
    have hwl : w.length = l.length := by rw [← strsD_len, h3, keysD_len]
    have hb0 : hW l (cutS x 10) 0 = false := by unfold hW; simp
    refine ⟨l.length, w, 0, l, nn, rfl, by omega, h2, h3, by unfold rW; rw [hb0], rfl, ?_⟩
    rw [all_e]
    have okl := okM_mk (l := l) rfl (show l.length < 1000000 by omega)
    have hWe : hW l (cutS x 10) l.length = hasB l (cutS x 10) := by
      unfold hW
      cases hx : hasB l (cutS x 10)
      · rfl
      · rw [decide_eq_true (hasB_lt hx)]; rfl
    have hRe : rankL l (cutS x 10) = rW l (cutS x 10) l.length := by unfold rankL rW; rw [hWe]; cases hasB l (cutS x 10) <;> rfl
    have hin : inL l (w.length : Int) = false := by unfold inL; rw [hwl]; simp
    refine br_t okl (br_t okl (br_t okl (br_t (decide_eq_true hRe) (br_t (by rw [hWe]; simp) (br_t (by rw [hin]; rfl) (br_t ?_ ⟨rfl, rfl⟩))))))
    simp only [Bool.and_eq_true, sameK, sortB, decide_eq_true_eq]
    exact ⟨okl, h3, h2⟩
  refine ⟨o.length, 0, 0, [], by omega, by simp, by omega, by omega, .inl ⟨rfl, rfl, rfl⟩, fun i t => ?_, fun n i l nn t hn h50 hl hinv => ?_⟩
  · refine Eq.mpr (all_m0 ..) ?_
    have e : List.take 0 (List.drop 0 t) = [] := rfl
    rw [e]
    exact br_t (by simp) (br_t rfl (br_mk (fun h => by cases h) (fun _ => last [] [] false (by simp) InvD.nil.ss rfl)))
  · refine Eq.mpr (all_m1 ..) ?_
    rw [List.drop_zero]
    have okl := okM_mk (l := l) rfl (show l.length < 1000000 by omega)
    obtain ⟨k1, k2⟩ := wordsD_law (t.take n)
    have hsame : strsD (wordsD (t.take n)) = keysD l := SS_uniq k1 hinv.ss fun y => by rw [k2, hinv.mem]
    have hlen : (wordsD (t.take n)).length = l.length := by rw [← strsD_len, hsame, keysD_len]
    refine br_t (by rw [Bool.and_true, Nat.zero_add]; exact Nat.ble_eq_true_of_le hn) (br_t (blt_lt.2 (by rw [List.length_take]; omega)) (br_t okl (br_mk (fun h => ?_) (fun _ => last l _ nn hl hinv.ss hsame))))
    rw [hlen] at h
    simp at h
end Go.Proofs.Ytkfdfenaaidkkaa
