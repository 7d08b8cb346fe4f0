/- Operations that touch no memory: slices, indexes, fields; one law for all. -/
import Derived.Test.YtkfdfenaaidkkaaSyC
set_option linter.unusedSimpArgs false
set_option linter.unusedVariables false
namespace Go.Sy
open Go

section
variable {P : Program} {ρ : Rho} (w : World)

/- ### bounds -/
theorem run_boundA' {x : AV} {y y' n : Nat} {u : Value} (h : boundA x y = some (true, n)) (hy : y ≤ y') (hu : Rel ρ x u) (code : BoundsCode) : (Instr.sliceBound u y' code).run P w = .ok n w ∧ n ≤ y := by
  unfold boundA at h
  split at h
  · rename_i k i
    simp only [Rel] at hu; subst hu
    simp only [Option.some.injEq, Prod.mk.injEq, Bool.and_eq_true, decide_eq_true_eq] at h
    obtain ⟨hb, rfl⟩ := h
    refine ⟨?_, by omega⟩
    have hb' : 0 ≤ i ∧ i ≤ (y' : Int) := ⟨hb.1, by omega⟩
    simp [Instr.sliceBound, asIntOf, hb']
  · cases h
def RelO (ρ : Rho) : Option AV → Option Value → Prop
  | none, v => v = none
  | some a, v => ∃ u, v = some u ∧ Rel ρ a u
theorem run_boundsA {isSl : Bool} {len cap top l h : Nat} {lo hi : Option AV} {lo' hi' : Option Value} (e : boundsA lo hi top len = some (true, l, h)) (ht : top ≤ cap) (hlen : len ≤ top)
    (rl : RelO ρ lo lo') (rh : RelO ρ hi hi') : (Instr.sliceBounds isSl len cap lo' hi' none).run P w = .ok (l, h, cap) w ∧ l ≤ h ∧ h ≤ top := by
  unfold boundsA at e
  split at e
  · cases e
  · rename_i g hh eh
    split at e
    · cases e
    · rename_i g' ll el
      simp only [Option.some.injEq, Prod.mk.injEq, Bool.and_eq_true] at e
      obtain ⟨⟨rfl, rfl⟩, rfl, rfl⟩ := e
      cases hi with
      | none =>
        simp only [RelO] at rh; subst rh
        simp only [boundOr, Option.some.injEq, Prod.mk.injEq, true_and] at eh; subst eh
        cases lo with
        | none =>
          simp only [RelO] at rl; subst rl
          simp only [boundOr, Option.some.injEq, Prod.mk.injEq, true_and] at el; subst el
          exact ⟨by simp [Instr.sliceBounds], by omega, hlen⟩
        | some lv =>
          simp only [RelO] at rl; obtain ⟨lu, rfl, rl⟩ := rl
          obtain ⟨b1, b2⟩ := run_boundA' (P := P) w (show boundA lv len = some (true, ll) from el) (Nat.le_refl _) rl .sliceB
          exact ⟨by simp [Instr.sliceBounds, b1], b2, hlen⟩
      | some hv =>
        simp only [RelO] at rh; obtain ⟨hu, rfl, rh⟩ := rh
        obtain ⟨c1, c2⟩ := run_boundA' (P := P) w (show boundA hv top = some (true, hh) from eh) ht rh (if isSl then .sliceAcap else .sliceAlen)
        cases lo with
        | none =>
          simp only [RelO] at rl; subst rl
          simp only [boundOr, Option.some.injEq, Prod.mk.injEq, true_and] at el; subst el
          exact ⟨by simp [Instr.sliceBounds, c1], by omega, c2⟩
        | some lv =>
          simp only [RelO] at rl; obtain ⟨lu, rfl, rl⟩ := rl
          obtain ⟨b1, b2⟩ := run_boundA' (P := P) w (show boundA lv hh = some (true, ll) from el) (Nat.le_refl _) rl .sliceB
          exact ⟨by simp [Instr.sliceBounds, c1, b1], b2, c2⟩

theorem FzR.sub {F : Nat → Nat → Option Value} {sz : Nat} {R : D → List Value → Prop} {l : List D} {a h B o cap : Nat} (hx : ∀ (i : Nat) (d : D), l[i]? = some d → ∃ vs, R d vs ∧ ∀ (j : Nat) (u : Value), vs[j]? = some u → F B (o + i * sz + j) = some u)
    (hah : a ≤ h) (hh : h ≤ l.length) (hc : l.length ≤ cap) : FzR F sz R false ((l.take h).drop a) (.slice (some ⟨B, o + a * sz, none⟩) (h - a) (cap - a)) := by
  refine .inr ⟨B, o + a * sz, cap - a, ?_, ?_, fun i d hd => ?_⟩
  · simp; omega
  · simp; omega
  · rw [List.getElem?_drop, List.getElem?_take] at hd
    split at hd
    · obtain ⟨vs, h1, h2⟩ := hx _ d hd
      refine ⟨vs, h1, fun j u hu => ?_⟩
      have := h2 j u hu
      rwa [show o + (a + i) * sz + j = o + a * sz + i * sz + j by rw [Nat.add_mul]; omega] at this
    · cases hd

theorem size_mk (l : List UInt8) : (ByteArray.mk l.toArray).size = l.length := by simp [ByteArray.size]
theorem run_sliceS {t : TypeId} {x a : AV} {lo hi : Option AV} {lo' hi' : Option Value} {u : Value} (h : sliceS P t x lo hi = some (true, a)) (hu : Rel ρ x u)
    (rl : RelO ρ lo lo') (rh : RelO ρ hi hi') :
    ∃ r, (Instr.sliceAt t u lo' hi' none).run P w = .ok r w ∧ Rel ρ a r := by
  unfold sliceS at h
  split at h
  · rename_i ht
    split at h
    · rename_i s
      have e := hu.str_inv
      subst e
      split at h
      · rename_i g l hn hb
        simp only [Option.some.injEq, Prod.mk.injEq] at h
        obtain ⟨rfl, rfl⟩ := h
        obtain ⟨h1, h2, h3⟩ := run_boundsA (P := P) w (isSl := false) (cap := s.length) hb (Nat.le_refl _) (Nat.le_refl _) rl rh
        have e0 : (ByteArray.mk s.toArray).size = s.length := size_mk s
        refine ⟨.string ((ByteArray.mk s.toArray).extract l hn), by simp [Instr.sliceAt, Instr.slice, run_underlying ht, e0, h1], ?_⟩
        simp only [Rel, Value.string.injEq]
        apply ByteArray.ext
        simp [ByteArray.data_extract]
        rw [List.drop_take]
      · cases h
    · cases h
  · rename_i e ht
    split at h
    · rename_i n hn
      split at h
      · rename_i g l hh hb
        simp only [Option.some.injEq, Prod.mk.injEq] at h
        obtain ⟨rfl, rfl⟩ := h
        simp only [Rel] at hu; subst hu
        obtain ⟨h1, h2, h3⟩ := run_boundsA (P := P) w (isSl := true) (cap := 0) hb (Nat.le_refl _) (Nat.le_refl _) rl rh
        obtain rfl : hh = 0 := by omega
        obtain rfl : l = 0 := by omega
        exact ⟨.slice none 0 0, by simp [Instr.sliceAt, Instr.slice, run_underlying ht, h1, run_sizeA hn], by simp [Rel]⟩
      · cases h
    · rename_i nn sh l n hn
      split at h
      · rename_i g a0 hh hsz hb
        simp only [Option.some.injEq, Prod.mk.injEq] at h
        obtain ⟨rfl, rfl⟩ := h
        have hsz' := Nat.eq_of_beq_eq_true hsz
        simp only [Rel] at hu
        rcases hu with ⟨_, rfl, rfl⟩ | ⟨B, o, cap, rfl, hc, hx⟩
        · obtain ⟨h1, h2, h3⟩ := run_boundsA (P := P) w (isSl := true) (cap := 0) hb (Nat.le_refl _) (Nat.le_refl _) rl rh
          simp only [List.length_nil] at h1 h3
          obtain rfl : hh = 0 := by omega
          obtain rfl : a0 = 0 := by omega
          exact ⟨.slice none 0 0, by simp [Instr.sliceAt, Instr.slice, run_underlying ht, h1, run_sizeA hn], by simp [Rel, FzR]⟩
        · obtain ⟨h1, h2, h3⟩ := run_boundsA (P := P) w (isSl := true) (cap := cap) hb hc (Nat.le_refl _) rl rh
          by_cases hcl : cap = a0
          · subst hcl
            refine ⟨.slice (some ⟨B, o, none⟩) (hh - cap) (cap - cap), by simp [Instr.sliceAt, Instr.slice, run_underlying ht, h1, run_sizeA hn], ?_⟩
            simp only [Rel]
            have e0 : (l.take hh).drop cap = [] := by apply List.eq_nil_of_length_eq_zero; simp; omega
            rw [e0]
            exact .inr ⟨B, o, cap - cap, by simp; omega, by simp, fun i d hd => by simp at hd⟩
          · refine ⟨.slice (some ⟨B, o + a0 * n, none⟩) (hh - a0) (cap - a0), by simp [Instr.sliceAt, Instr.slice, run_underlying ht, h1, run_sizeA hn, hcl, Addr.add_lit], ?_⟩
            simp only [Rel]
            rw [← hsz']
            exact FzR.sub hx h2 h3 hc
      · cases h
    · rename_i nn sh b off len cap n hn
      split at h
      · rename_i hsz
        have hsz' := Nat.eq_of_beq_eq_true hsz
        split at h
        · rename_i g a0 hh hb
          simp only [Option.some.injEq, Prod.mk.injEq] at h
          obtain ⟨rfl, rfl⟩ := h
          simp only [Rel] at hu
          obtain ⟨B, o, r, hρ, hu⟩ := hu
          rcases hu with ⟨rfl, rfl, ht0, hr0, rfl⟩ | ⟨c, hlt, htop, hex, hfit, hu⟩
          · rw [ht0] at hb
            obtain ⟨h1, h2, h3⟩ := run_boundsA (P := P) w (isSl := true) (cap := 0) hb (Nat.le_refl _) (Nat.le_refl _) rl rh
            obtain rfl : hh = 0 := by omega
            obtain rfl : a0 = 0 := by omega
            refine ⟨.slice none 0 0, by simp [Instr.sliceAt, Instr.slice, run_underlying ht, h1, run_sizeA hn], ?_⟩
            simp only [Rel]
            exact ⟨B, o, r, hρ, .inl (by simp only [hr0]; cases cap <;> simp_all [Cap.sub, Cap.top])⟩
          · obtain ⟨h1, h2, h3⟩ := run_boundsA (P := P) w (isSl := true) (cap := c) hb htop hlt rl rh
            have hsub : (hh - a0 ≤ (cap.sub len a0).top (hh - a0)) ∧ (cap.sub len a0).top (hh - a0) ≤ c - a0 ∧ (cap.sub len a0).exact (c - a0) := by
              cases cap <;> simp only [Cap.sub, Cap.top, Cap.exact] at * <;> (try subst hex) <;> refine ⟨by omega, by omega, ?_⟩ <;> first | rfl | trivial
            have hfit' : (off + a0) * sh.size + (c - a0) * sh.size ≤ r := by
              have : (off + a0) * sh.size + (c - a0) * sh.size = off * sh.size + c * sh.size := by
                rw [← Nat.add_mul, ← Nat.add_mul]; congr 1; omega
              omega
            rcases hu with rfl | ⟨rfl, x, rfl⟩
            · by_cases hcl : c = a0
              · subst hcl
                refine ⟨.slice (some ⟨B, o + off * sh.size, none⟩) (hh - c) (c - c), by simp [Instr.sliceAt, Instr.slice, run_underlying ht, h1, run_sizeA hn], ?_⟩
                simp only [Rel]
                refine ⟨B, o, r, hρ, .inr ⟨c - c, hsub.1, hsub.2.1, hsub.2.2, hfit', .inr ⟨by omega, o + off * sh.size, ?_⟩⟩⟩
                rw [show hh - c = 0 by omega, Nat.sub_self]
              · refine ⟨.slice (some ⟨B, o + (off * sh.size + a0 * n), none⟩) (hh - a0) (c - a0), by simp [Instr.sliceAt, Instr.slice, run_underlying ht, h1, run_sizeA hn, hcl, Addr.add_lit, Nat.add_assoc], ?_⟩
                simp only [Rel]
                refine ⟨B, o, r, hρ, .inr ⟨c - a0, hsub.1, hsub.2.1, hsub.2.2, hfit', .inl ?_⟩⟩
                rw [hsz', Nat.add_mul]
            · obtain rfl : len = 0 := by omega
              obtain rfl : hh = 0 := by omega
              obtain rfl : a0 = 0 := by omega
              refine ⟨.slice (some ⟨B, x, none⟩) 0 0, by simp [Instr.sliceAt, Instr.slice, run_underlying ht, h1, run_sizeA hn], ?_⟩
              simp only [Rel]
              exact ⟨B, o, r, hρ, .inr ⟨0, hsub.1, hsub.2.1, hsub.2.2, hfit', .inr ⟨rfl, x, rfl⟩⟩⟩
        · cases h
      · cases h
    · cases h
  · cases h

/- ### indexes -/
theorem run_bounds3 {len cap top l h m : Nat} {lo : Option AV} {hi mx : AV} {lo' : Option Value} {hi' mx' : Value} (e : bounds3 lo hi mx top = some (true, l, h, m)) (ht : top ≤ cap)
    (rl : RelO ρ lo lo') (rh : Rel ρ hi hi') (rm : Rel ρ mx mx') : (Instr.sliceBounds true len cap lo' (some hi') (some mx')).run P w = .ok (l, h, m) w ∧ l ≤ h ∧ h ≤ m ∧ m ≤ top := by
  unfold bounds3 at e
  split at e
  · cases e
  · rename_i g m' em
    split at e
    · cases e
    · rename_i g' h' eh
      split at e
      · cases e
      · rename_i g'' l' el
        simp only [Option.some.injEq, Prod.mk.injEq, Bool.and_eq_true] at e
        obtain ⟨⟨rfl, rfl, rfl⟩, rfl, rfl, rfl⟩ := e
        obtain ⟨a1, a2⟩ := run_boundA' (P := P) w em ht rm .slice3Acap
        obtain ⟨b1, b2⟩ := run_boundA' (P := P) w eh (Nat.le_refl _) rh .slice3B
        cases lo with
        | none =>
          simp only [RelO] at rl; subst rl
          simp only [boundOr, Option.some.injEq, Prod.mk.injEq, true_and] at el; subst el
          exact ⟨by simp [Instr.sliceBounds, a1, b1], by omega, b2, a2⟩
        | some lv =>
          simp only [RelO] at rl; obtain ⟨lu, rfl, rl⟩ := rl
          obtain ⟨c1, c2⟩ := run_boundA' (P := P) w (show boundA lv h' = some (true, l') from el) (Nat.le_refl _) rl .slice3C
          exact ⟨by simp [Instr.sliceBounds, a1, b1, c1], c2, b2, a2⟩
theorem run_slice3S {t : TypeId} {x a : AV} {lo : Option AV} {hi mx : AV} {lo' : Option Value} {hi' mx' u : Value} (h : slice3S P t x lo hi mx = some (true, a)) (hu : Rel ρ x u)
    (rl : RelO ρ lo lo') (rh : Rel ρ hi hi') (rm : Rel ρ mx mx') :
    ∃ r, (Instr.sliceAt t u lo' (some hi') (some mx')).run P w = .ok r w ∧ Rel ρ a r := by
  unfold slice3S at h
  split at h
  · rename_i e ht
    split at h
    · rename_i nn sh b off len cap n hn
      split at h
      · rename_i hsz
        have hsz' := Nat.eq_of_beq_eq_true hsz
        split at h
        · rename_i g a0 hh m hb
          simp only [Option.some.injEq, Prod.mk.injEq] at h
          obtain ⟨rfl, rfl⟩ := h
          simp only [Rel] at hu
          obtain ⟨B, o, r, hρ, hu⟩ := hu
          rcases hu with ⟨rfl, rfl, ht0, hr0, rfl⟩ | ⟨c, hlt, htop, hex, hfit, hu⟩
          · rw [ht0] at hb
            obtain ⟨h1, h2, h3, h4⟩ := run_bounds3 (P := P) (len := 0) (cap := 0) w hb (Nat.le_refl _) rl rh rm
            obtain rfl : m = 0 := by omega
            obtain rfl : hh = 0 := by omega
            obtain rfl : a0 = 0 := by omega
            refine ⟨.slice none 0 0, by simp [Instr.sliceAt, Instr.slice, run_underlying ht, h1, run_sizeA hn], ?_⟩
            simp only [Rel]
            exact ⟨B, o, r, hρ, .inl (by simp [hr0, Cap.top])⟩
          · obtain ⟨h1, h2, h3, h4⟩ := run_bounds3 (P := P) (len := len) (cap := c) w hb htop rl rh rm
            have hfit' : (off + a0) * sh.size + (m - a0) * sh.size ≤ r := by
              have h5 : (off + a0) * sh.size + (m - a0) * sh.size = off * sh.size + m * sh.size := by
                rw [← Nat.add_mul, ← Nat.add_mul]; congr 1; omega
              have h6 : m * sh.size ≤ c * sh.size := Nat.mul_le_mul_right _ (by omega)
              omega
            rcases hu with rfl | ⟨rfl, x, rfl⟩
            · by_cases hcl : m = a0
              · subst hcl
                refine ⟨.slice (some ⟨B, o + off * sh.size, none⟩) (hh - m) (m - m), by simp [Instr.sliceAt, Instr.slice, run_underlying ht, h1, run_sizeA hn], ?_⟩
                simp only [Rel]
                refine ⟨B, o, r, hρ, .inr ⟨m - m, by simp only [Cap.top]; omega, by simp only [Cap.top]; omega, rfl, hfit', .inr ⟨by omega, o + off * sh.size, ?_⟩⟩⟩
                rw [show hh - m = 0 by omega, Nat.sub_self]
              · refine ⟨.slice (some ⟨B, o + (off * sh.size + a0 * n), none⟩) (hh - a0) (m - a0), by simp [Instr.sliceAt, Instr.slice, run_underlying ht, h1, run_sizeA hn, hcl, Addr.add_lit, Nat.add_assoc], ?_⟩
                simp only [Rel]
                refine ⟨B, o, r, hρ, .inr ⟨m - a0, by simp only [Cap.top]; omega, by simp only [Cap.top]; omega, rfl, hfit', .inl ?_⟩⟩
                rw [hsz', Nat.add_mul]
            · obtain rfl : len = 0 := by omega
              obtain rfl : m = 0 := by omega
              obtain rfl : hh = 0 := by omega
              obtain rfl : a0 = 0 := by omega
              refine ⟨.slice (some ⟨B, x, none⟩) 0 0, by simp [Instr.sliceAt, Instr.slice, run_underlying ht, h1, run_sizeA hn], ?_⟩
              simp only [Rel]
              exact ⟨B, o, r, hρ, .inr ⟨0, by simp [Cap.top], by simp [Cap.top], rfl, by simpa using hfit', .inr ⟨rfl, x, rfl⟩⟩⟩
        · cases h
      · cases h
    · cases h
  · cases h

theorem asInt_int (k : IntKind) (i : Int) : (asIntOf (.int k i)).run P w = .ok (k, i) w := rfl
theorem getD_of_lt {α : Type} (l : List α) (i : Nat) (d : α) (h : i < l.length) : l[i]? = some (l.getD i d) := by
  simp [List.getD, List.getElem?_eq_getElem h]
theorem run_indexAddrA {t : TypeId} {x ix a : AV} {u v : Value} (h : indexAddrA P t x ix = some (true, a)) (hu : Rel ρ x u) (hv : Rel ρ ix v) :
    ∃ r, (Instr.indexAt t u v).run P w = .ok r w ∧ Rel ρ a r := by
  unfold indexAddrA at h
  split at h
  · rename_i k i
    simp only [Rel] at hv; subst hv
    split at h
    · rename_i len e ht
      split at h
      · rename_i b off n hn
        simp only [Option.some.injEq, Prod.mk.injEq, Bool.and_eq_true, decide_eq_true_eq] at h
        obtain ⟨hb, rfl⟩ := h
        simp only [Rel] at hu
        obtain ⟨B, o, r, hρ, rfl⟩ := hu
        refine ⟨.pointer (some ⟨B, o + (off + i.toNat * n), none⟩), ?_, by simp only [Rel]; exact ⟨B, o, r, hρ, rfl⟩⟩
        simp [Instr.indexAt, asIntOf, run_underlying ht, Instr.sureAddr, hb, run_sizeA hn, Addr.add_lit, Nat.add_assoc]
      · cases h
    · rename_i e ht
      split at h
      · rename_i b off len cap n hn
        simp only [Option.some.injEq, Prod.mk.injEq, Bool.and_eq_true, decide_eq_true_eq] at h
        obtain ⟨hb, rfl⟩ := h
        simp only [Rel] at hu
        obtain ⟨B, o, r, hρ, _, rfl⟩ := hu
        refine ⟨.pointer (some ⟨B, o + (off + i.toNat * n), none⟩), ?_, by simp only [Rel]; exact ⟨B, o, r, hρ, rfl⟩⟩
        simp [Instr.indexAt, asIntOf, run_underlying ht, hb, run_sizeA hn, Addr.add_lit, Nat.add_assoc]
      · rename_i nn sh l n hn
        split at h
        · rename_i hsz
          have hsz' := Nat.eq_of_beq_eq_true hsz
          simp only [Option.some.injEq, Prod.mk.injEq, Bool.and_eq_true, decide_eq_true_eq] at h
          obtain ⟨hb, rfl⟩ := h
          simp only [Rel] at hu
          rcases hu with ⟨_, rfl, rfl⟩ | ⟨B, o, cap, rfl, hc, hx⟩
          · simp at hb; omega
          · obtain ⟨vs, h1, h2⟩ := hx i.toNat _ (getD_of_lt l i.toNat .nul (by omega))
            refine ⟨.pointer (some ⟨B, o + i.toNat * n, none⟩), ?_, ?_⟩
            · simp [Instr.indexAt, asIntOf, run_underlying ht, hb, run_sizeA hn, Addr.add_lit]
            · simp only [Rel]
              rw [← hsz']
              exact ⟨B, _, vs, rfl, h1, h2⟩
        · cases h
      · rename_i nn sh b off len cap n hn
        split at h
        · rename_i hsz
          have hsz' := Nat.eq_of_beq_eq_true hsz
          simp only [Option.some.injEq, Prod.mk.injEq, Bool.and_eq_true, decide_eq_true_eq] at h
          obtain ⟨hb, rfl⟩ := h
          simp only [Rel] at hu
          obtain ⟨B, o, r, hρ, ⟨_, rfl, _, _, rfl⟩ | ⟨c, hlt, htop, _, hfit, rfl | ⟨rfl, x, rfl⟩⟩⟩ := hu
          · omega
          · refine ⟨.pointer (some ⟨B, o + (off * sh.size + i.toNat * n), none⟩), ?_, ?_⟩
            · simp [Instr.indexAt, asIntOf, run_underlying ht, hb, run_sizeA hn, Addr.add_lit, Nat.add_assoc]
            · simp only [Rel]
              refine ⟨B, o, r, hρ, ?_⟩
              rw [hsz', Nat.add_mul, Nat.add_zero]
          · omega
        · cases h
      · cases h
    · cases h
  · cases h
theorem ones_get {k : IntKind} : ∀ (cs : List AV) (ds : List D) (l : List Value), onesD cs = some ds → allKind k cs = true → Rels ρ cs l → ∀ i, i < cs.length → l[i]? = some (.int k (ds.getD i .nul).asInt)
  | [], ds, l, h1, h2, h3, i, hi => by simp at hi
  | c :: cs, ds, l, h1, h2, h3, i, hi => by
    cases c with
    | int k' n =>
      simp only [onesD] at h1
      split at h1
      · rename_i r hr
        cases h1
        simp only [allKind, Bool.and_eq_true, decide_eq_true_eq] at h2
        obtain ⟨rfl, h2⟩ := h2
        simp only [Rels, Rel] at h3
        obtain ⟨v, vs, rfl, rfl, h3⟩ := h3
        cases i with
        | zero => rfl
        | succ i => simpa using ones_get cs r vs hr h2 h3 i (by simpa using hi)
      · cases h1
    | _ => simp [allKind] at h2
theorem run_indexA {t : TypeId} {x ix a : AV} {u v : Value} (h : indexA P t x ix = some (true, a)) (hu : Rel ρ x u) (hv : Rel ρ ix v) :
    ∃ r, (Instr.index t u v).run P w = .ok r w ∧ Rel ρ a r := by
  unfold indexA at h
  split at h
  · rename_i k i
    simp only [Rel] at hv; subst hv
    split at h
    · rename_i len e cs ht
      split at h
      · rename_i k0 he
        split at h
        · rename_i ds hk hs hg hd
          simp only [Option.some.injEq, Prod.mk.injEq, Bool.and_eq_true, decide_eq_true_eq] at h hk
          obtain ⟨hb, rfl⟩ := h
          have hlen := Nat.eq_of_beq_eq_true hk.2
          simp only [Rel] at hu
          obtain ⟨l, rfl, hl⟩ := hu
          have hget := ones_get (ρ := ρ) cs ds l hd hk.1 hl i.toNat (by omega)
          refine ⟨_, ?_, show Rel ρ _ (.int k0 (ds.getD i.toNat .nul).asInt) by simp [Rel]⟩
          have hb' : 0 ≤ i ∧ i < (len : Int) := hb
          simp [Instr.index, asIntOf, run_underlying ht, hb', run_sizeA hs, part, run_isAggA hg, hget]
        · cases h
      · cases h
    · rename_i s ht
      simp only [Option.some.injEq, Prod.mk.injEq, Bool.and_eq_true, decide_eq_true_eq] at h
      obtain ⟨hi, rfl⟩ := h
      have e := hu.str_inv
      subst e
      refine ⟨.int .u8 (s.getD i.toNat 0).toNat, ?_, by simp [Rel]⟩
      have hlt : i.toNat < s.length := by omega
      have hg : (ByteArray.mk s.toArray)[i.toNat]? = some (s.getD i.toNat 0) := by
        have hs : i.toNat < (ByteArray.mk s.toArray).size := by simpa [ByteArray.size] using hlt
        rw [getElem?_pos (ByteArray.mk s.toArray) i.toNat hs]
        have : s.getD i.toNat 0 = s[i.toNat] := by simp [List.getD, List.getElem?_eq_getElem hlt]
        rw [this]
        simp [ByteArray.getElem_eq_getElem_data]
      simp [Instr.index, asIntOf, run_underlying ht, hi.1, hg]
    · cases h
  · cases h

/- ### fields -/
theorem RelShs.fld {F : Nat → Nat → Option Value} : ∀ (fs : List Sh) (d : D) (i : Nat) (vs : List Value) (f : Nat) (s : Sh), RelShs F fs d i vs → fs[f]? = some s → RelSh F s (d.fld (i + f)) ((vs.drop (shOff fs f)).take s.size)
  | [], d, i, vs, f, s, h, e => by simp at e
  | g :: fs, d, i, vs, f, s, h, e => by
    simp only [RelShs] at h
    obtain ⟨a, b, rfl, h1, h2⟩ := h
    have hl := RelSh.length h1
    cases f with
    | zero =>
      simp at e; subst e
      simp only [shOff, List.drop_zero, Nat.add_zero]
      rw [← hl, List.take_left]
      exact h1
    | succ f =>
      simp at e
      simp only [shOff]
      rw [List.drop_append, hl, show g.size + shOff fs f - g.size = shOff fs f by omega, List.drop_of_length_le (l := a) (by omega), List.nil_append]
      have := RelShs.fld fs d (i + 1) b f s h2 e
      rwa [show i + 1 + f = i + (f + 1) by omega] at this
theorem run_fieldAddrA {t : TypeId} {x a : AV} {f : Nat} {u : Value} (h : fieldAddrA P t x f = some a) (hu : Rel ρ x u) :
    ∃ r, (Instr.fieldAt t u f).run P w = .ok r w ∧ Rel ρ a r := by
  unfold fieldAddrA at h
  split at h
  · rename_i fs b off ht
    split at h
    · cases h
    · rename_i fd hfd
      split at h
      · cases h
      · rename_i n hn
        split at h
        · cases h
        · rename_i h0
          cases h
          have h0' : ¬ n = 0 := fun e => by subst e; cases h0
          simp only [Rel] at hu
          obtain ⟨B, o, r, hρ, rfl⟩ := hu
          refine ⟨.pointer (some ⟨B, o + (off + fd.offset), none⟩), ?_, by simp only [Rel]; exact ⟨B, o, r, hρ, rfl⟩⟩
          simp [Instr.fieldAt, run_underlying ht, hfd, Instr.sureAddr, fieldPlace, run_sizeA hn, h0', Addr.add_lit, Nat.add_assoc]
  · rename_i fs sh b i fo ht
    split at h
    · cases h
    · rename_i fd hfd
      split at h
      · cases h
      · rename_i n hn
        split at h
        · cases h
        · rename_i h0
          cases h
          have h0' : ¬ n = 0 := fun e => by subst e; cases h0
          simp only [Rel] at hu
          obtain ⟨B, o, r, hρ, rfl⟩ := hu
          refine ⟨.pointer (some ⟨B, o + (i * sh.size + (fo + fd.offset)), none⟩), ?_, by simp only [Rel]; exact ⟨B, o, r, hρ, rfl⟩⟩
          simp [Instr.fieldAt, run_underlying ht, hfd, Instr.sureAddr, fieldPlace, run_sizeA hn, h0', Addr.add_lit, Nat.add_assoc]
  · rename_i fs shs d ht
    split at h
    · rename_i fd s hfd hs
      split at h
      · cases h
      · rename_i n hn
        split at h
        · cases h
        · rename_i h0
          cases h
          simp only [Bool.or_eq_false_iff, Bool.not_eq_false'] at h0
          have h0' : ¬ n = 0 := fun e => by subst e; cases h0.1
          have hoff := Nat.eq_of_beq_eq_true h0.2
          simp only [Rel] at hu
          obtain ⟨B, o, vs, rfl, h1, h2⟩ := hu
          simp only [RelSh] at h1
          have h3 := RelShs.fld shs d 0 vs f s h1 hs
          rw [Nat.zero_add] at h3
          refine ⟨.pointer (some ⟨B, o + fd.offset, none⟩), ?_, ?_⟩
          · simp [Instr.fieldAt, run_underlying ht, hfd, Instr.sureAddr, fieldPlace, run_sizeA hn, h0', Addr.add_lit]
          · simp only [Rel]
            refine ⟨B, _, _, rfl, h3, fun j u hj => ?_⟩
            rw [hoff] at hj
            rw [List.getElem?_take] at hj
            split at hj
            · rw [List.getElem?_drop] at hj
              have := h2 _ u hj
              rwa [← Nat.add_assoc] at this
            · cases hj
    · cases h
  · cases h
theorem run_fieldA {t : TypeId} {x a : AV} {f : Nat} {u : Value} (h : fieldA P t x f = some a) (hu : Rel ρ x u) :
    ∃ r, (Instr.field t u f).run P w = .ok r w ∧ Rel ρ a r := by
  unfold fieldA at h
  split at h
  · rename_i fs cs ht
    split at h
    · cases h
    · rename_i fd hfd
      simp only [Rel] at hu
      obtain ⟨l, rfl, hl⟩ := hu
      obtain ⟨r, hr, hrel⟩ := run_part h hl w
      exact ⟨r, by simp [Instr.field, run_underlying ht, hfd, asAgg, hr], hrel⟩
  · cases h
theorem run_convA {src dst : TypeId} {x a : AV} {u : Value} (h : convA P src dst x = some a) (hu : Rel ρ x u) :
    ∃ r, (convert src dst u).run P w = .ok r w ∧ Rel ρ a r := by
  unfold convA at h
  split at h
  · rename_i d k k' n hs hd
    cases h
    simp only [Rel] at hu; subst hu
    exact ⟨_, by simp [convert, run_underlying hs, run_underlying hd, Conv.intToInt]; rfl, by simp [Rel]⟩
  · rename_i d s hs hd
    cases h
    have e := hu.str_inv
    subst e
    refine ⟨_, ?_, by simp [Rel]; rfl⟩
    cases d <;> simp [convert, run_underlying hs, run_underlying hd]
  · cases h
theorem run_minmaxA {b : Bool} {l : List AV} {a : AV} {vs : List Value} (h : minmaxA b l = some a) (hu : Rels ρ l vs) (ts : Array TypeId) (t : TypeId) :
    ∃ r, (if b then Builtin.max_ ts t vs.toArray else Builtin.min_ ts t vs.toArray).run P w = .ok r w ∧ Rel ρ a r := by
  unfold minmaxA at h
  split at h
  · cases h
    simp only [Rels, Rel] at hu
    obtain ⟨_, _, rfl, rfl, _, _, rfl, rfl, rfl⟩ := hu
    cases b
    · exact ⟨_, by simp [Builtin.min_, Builtin.min2, List.foldlM]; rfl, by simp [Rel]⟩
    · exact ⟨_, by simp [Builtin.max_, Builtin.max2, List.foldlM]; rfl, by simp [Rel]⟩
  · cases h
    simp only [Rels, Rel] at hu
    obtain ⟨_, _, rfl, rfl, _, _, rfl, rfl, _, _, rfl, rfl, rfl⟩ := hu
    cases b
    · exact ⟨_, by simp [Builtin.min_, Builtin.min2, List.foldlM]; rfl, by simp [Rel]⟩
    · exact ⟨_, by simp [Builtin.max_, Builtin.max2, List.foldlM]; rfl, by simp [Rel]⟩
  · cases h


/- ### operands -/
def RelT (ρ : Rho) (a : AV) (v : Value) : Prop := a = .any ∨ Rel ρ a v
theorem RelT.mono {ρ ρ' : Rho} {a : AV} {v : Value} (h : RelT ρ a v) (hle : ρ.le ρ') : RelT ρ' a v := h.imp id (fun h => h.mono hle)
/-- The slots. -/
def TR (ρ : Rho) (tmps : List AV) (arr : Array Value) : Prop := tmps.length = arr.size ∧ ∀ t : Nat, RelT ρ (tmps.getD t undefA) (arr.getD t undef)
theorem TR.mono {ρ ρ' : Rho} {tmps : List AV} {arr : Array Value} (h : TR ρ tmps arr) (hle : ρ.le ρ') : TR ρ' tmps arr := ⟨h.1, fun t => (h.2 t).mono hle⟩
theorem known_some {v u : AV} (h : v.known = some u) : u = v ∧ v ≠ .any := by
  unfold AV.known at h
  split at h
  · cases h
  · rename_i hne; cases h; exact ⟨rfl, fun e => hne e⟩
variable {tmps : List AV} {a : Act}
theorem ev_sound (h : TR ρ tmps a.tmps) {x : Operand} {v : AV} (e : evA tmps x = some v) : Rel ρ v (a.eval x) := by
  cases x with
  | tmp t =>
    simp only [evA] at e
    obtain ⟨rfl, hne⟩ := known_some e
    rcases h.2 t with h1 | h1
    · exact absurd h1 hne
    · exact h1
  | const c => exact rel_ofVal _ _ e
  | global g => simp only [evA] at e; cases e
  | func f => simp only [evA] at e; cases e; simp [Rel, Rels, Act.eval]
theorem evs_sound (h : TR ρ tmps a.tmps) : ∀ {xs : List Operand} {vs : List AV}, evsA tmps xs = some vs → Rels ρ vs (xs.map a.eval)
  | [], vs, e => by simp only [evsA] at e; cases e; exact Rels.nil
  | x :: xs, vs, e => by
    simp only [evsA] at e
    split at e
    · cases e
    · rename_i v hv
      split at e
      · cases e
      · rename_i l hl
        cases e
        exact Rels.cons (ev_sound h hv) (evs_sound h hl)
theorem evOpt_sound (h : TR ρ tmps a.tmps) {x : Option Operand} {v : Option AV} (e : evOptA tmps x = some v) : RelO ρ v (x.map a.eval) := by
  cases x with
  | none => simp only [evOptA] at e; cases e; rfl
  | some x =>
    simp only [evOptA] at e
    split at e
    · cases e
    · rename_i u hu
      cases e
      exact ⟨_, rfl, ev_sound h hu⟩
theorem evParts_sound (h : TR ρ tmps a.tmps) : ∀ {xs : List (Nat × Operand)} {vs : List (Nat × AV)}, evPartsA tmps xs = some vs → RelParts ρ vs (xs.map fun (i, x) => (i, a.eval x))
  | [], vs, e => by simp only [evPartsA] at e; cases e; rfl
  | (i, x) :: xs, vs, e => by
    simp only [evPartsA] at e
    split at e
    · cases e
    · rename_i v hv
      split at e
      · cases e
      · rename_i l hl
        cases e
        exact ⟨_, _, rfl, ev_sound h hv, evParts_sound h hl⟩
theorem parts_toArray (xs : Array (Nat × Operand)) (f : Operand → Value) : (xs.map fun (i, x) => (i, f x)) = (xs.toList.map fun (i, x) => (i, f x)).toArray := by
  apply Array.ext'; simp

theorem lift_some {x : Option AV} {v : AV} (e : lift x = some (true, v)) : x = some v := by
  cases x <;> simp [lift] at e
  rw [e]
theorem pure_sound (h : TR ρ tmps a.tmps) {o : Oper} {v : AV} (e : pureA P tmps o.op = some (true, v)) : ∃ u, (execOp a.eval o).run P w = .ok (.value u) w ∧ Rel ρ v u := by
  obtain ⟨dst, op, type, pos, after, guard⟩ := o
  simp only at e
  unfold pureA at e
  split at e
  · exact ⟨_, rfl, ev_sound h (lift_some e)⟩
  · exact ⟨_, rfl, ev_sound h (lift_some e)⟩
  · rename_i c x y
    split at e
    · rename_i b0 hc
      have := ev_sound h hc
      simp only [Rel] at this
      cases b0
      · exact ⟨_, by simp [execOp, this, asBool], ev_sound h (lift_some e)⟩
      · exact ⟨_, by simp [execOp, this, asBool], ev_sound h (lift_some e)⟩
    · cases e
  · rename_i t parts
    split at e
    · rename_i l hl
      obtain ⟨r, hr, hrel⟩ := run_buildA w (lift_some e) (evParts_sound h hl)
      refine ⟨r, ?_, hrel⟩
      simp only [execOp, parts_toArray, Sem.run_bind, hr, Result.andThen_ok, Sem.run_pure]
    · cases e
  · rename_i x
    split at e
    · rename_i p hp
      obtain ⟨b, off⟩ := p
      cases e
      have := ev_sound h hp
      have h' := this
      simp only [Rel] at this
      obtain ⟨B, o, r, hρ, hx⟩ := this
      exact ⟨a.eval x, by simp [execOp, hx], h'⟩
    · rename_i f first caps hp
      cases e
      have := ev_sound h hp
      have h' := this
      simp only [Rel] at this
      obtain ⟨y, z, hx, _, _⟩ := this
      exact ⟨a.eval x, by simp [execOp, hx], h'⟩
    · cases e
  · rename_i op t x y yt
    split at e
    · rename_i u v' hu hv
      obtain ⟨r, hr, hrel⟩ := run_binA w e (ev_sound h hu) (ev_sound h hv) x y
      refine ⟨r, ?_, hrel⟩
      simp only [execOp]
      rw [Sem.run_bind, hr]
      rfl
    · cases e
  · rename_i op t x
    split at e
    · rename_i u hu
      obtain ⟨r, hr, hrel⟩ := run_unA (P := P) w e (ev_sound h hu)
      exact ⟨r, by simp [execOp, hr], hrel⟩
    · cases e
  · rename_i src dst' x
    split at e
    · rename_i u hu
      obtain ⟨r, hr, hrel⟩ := run_convA w (lift_some e) (ev_sound h hu)
      exact ⟨r, by simp [execOp, hr], hrel⟩
    · cases e
  · rename_i f first captured
    split at e
    · rename_i l c hl hc
      cases e
      refine ⟨_, by simp [execOp, Instr.makeFunc]; rfl, ?_⟩
      simp only [Rel]
      exact ⟨first.toList.map a.eval, captured.toList.map a.eval, by congr 1 <;> (apply Array.ext'; simp), evs_sound h hl, evs_sound h hc⟩
    · cases e
  · rename_i t x lo hi
    split at e
    · rename_i u l h' hu hl hh
      obtain ⟨r, hr, hrel⟩ := run_sliceS w e (ev_sound h hu) (evOpt_sound h hl) (evOpt_sound h hh)
      exact ⟨r, by simp [execOp, hr], hrel⟩
    · cases e
  · rename_i t x lo hi mx
    split at e
    · rename_i u l h' m hu hl hh hm
      obtain ⟨r, hr, hrel⟩ := run_slice3S w e (ev_sound h hu) (evOpt_sound h hl) (ev_sound h hh) (ev_sound h hm)
      exact ⟨r, by simp [execOp, hr], hrel⟩
    · cases e
  · rename_i t x f
    split at e
    · rename_i u hu
      obtain ⟨r, hr, hrel⟩ := run_fieldAddrA w (lift_some e) (ev_sound h hu)
      exact ⟨r, by simp [execOp, hr], hrel⟩
    · cases e
  · rename_i t x f
    split at e
    · rename_i u hu
      obtain ⟨r, hr, hrel⟩ := run_fieldA w (lift_some e) (ev_sound h hu)
      exact ⟨r, by simp [execOp, hr], hrel⟩
    · cases e
  · rename_i t x ix
    split at e
    · rename_i u i hu hi
      obtain ⟨r, hr, hrel⟩ := run_indexAddrA w e (ev_sound h hu) (ev_sound h hi)
      exact ⟨r, by simp [execOp, hr], hrel⟩
    · cases e
  · rename_i t x ix
    split at e
    · rename_i u i hu hi
      obtain ⟨r, hr, hrel⟩ := run_indexA w e (ev_sound h hu) (ev_sound h hi)
      exact ⟨r, by simp [execOp, hr], hrel⟩
    · cases e
  · rename_i x i
    split at e
    · rename_i vs hx
      have := ev_sound h hx
      simp only [Rel] at this
      obtain ⟨l, hl, hrel⟩ := this
      obtain ⟨r, hr, hrr⟩ := hrel.get i v (lift_some e)
      exact ⟨r, by simp [execOp, Instr.extract, hl, hr], hrr⟩
    · cases e
  · rename_i x t
    have hlen : ∀ (n : Nat), (Builtin.len_ #[t] type #[a.eval x]).run P w = .ok (goInt n) w →
        (execOp a.eval { dst := dst, op := .call { callee := .builtin .len, args := #[x], argTypes := #[t] }, type := type, pos := pos, after := after, guard := guard }).run P w = .ok (.value (.int .i64 n)) w := by
      intro n hn
      simp [execOp, resolve, invoke, builtin, hn, goInt]
    split at e
    · rename_i s hx ht
      cases e
      have := ev_sound h hx
      have hx' := this.str_inv
      refine ⟨.int .i64 s.length, hlen _ ?_, by simp [Rel]⟩
      rw [hx']
      simp [Builtin.len_, run_underlying ht, size_mk]
    · rename_i e0 hx ht
      cases e
      have hx' := ev_sound h hx
      simp only [Rel] at hx'
      refine ⟨.int .i64 0, hlen 0 ?_, by simp [Rel]⟩
      rw [hx']
      simp [Builtin.len_, run_underlying ht]
    · rename_i b0 o0 n c e0 hx ht
      cases e
      have hx' := ev_sound h hx
      simp only [Rel] at hx'
      obtain ⟨B, o, r, _, _, hx'⟩ := hx'
      refine ⟨.int .i64 n, hlen _ ?_, by simp [Rel]⟩
      rw [hx']
      simp [Builtin.len_, run_underlying ht]
    · rename_i nn e1 l e0 hx ht
      cases e
      have hx' := ev_sound h hx
      simp only [Rel] at hx'
      obtain ⟨q, c', hx'⟩ := hx'.form
      refine ⟨.int .i64 l.length, hlen _ ?_, by simp [Rel]⟩
      rw [hx']
      simp [Builtin.len_, run_underlying ht]
    · rename_i nn e1 b0 o0 n c e0 hx ht
      cases e
      obtain ⟨q, c', hx'⟩ := (ev_sound h hx).tsl_form
      refine ⟨.int .i64 n, hlen _ ?_, by simp [Rel]⟩
      rw [hx']
      simp [Builtin.len_, run_underlying ht]
    · rename_i av n e0 hx ht
      cases e
      refine ⟨.int .i64 n, hlen _ ?_, by simp [Rel]⟩
      simp [Builtin.len_, run_underlying ht]
    · cases e
  · rename_i x t
    split at e
    · rename_i b0 o0 n c e0 hx ht
      cases e
      have hx' := ev_sound h hx
      simp only [Rel] at hx'
      obtain ⟨B, o, r, _, _, hx'⟩ := hx'
      refine ⟨.int .i64 c, ?_, by simp [Rel]⟩
      simp [execOp, resolve, invoke, builtin, hx', Builtin.cap_, run_underlying ht, goInt]
    · rename_i e1 b0 o0 n c e0 hx ht
      cases e
      have hx' : ∃ q n', a.eval x = .slice q n' c := by
        have := ev_sound h hx
        simp only [Rel] at this
        obtain ⟨B, o, r, _, ⟨hn, _⟩ | ⟨c', _, _, hex, _, h5 | ⟨h5, y, h6⟩⟩⟩ := this
        · cases hn
        · simp only [Cap.exact] at hex; subst hex; exact ⟨_, _, h5⟩
        · simp only [Cap.exact] at hex; subst hex; subst h5; exact ⟨_, _, h6⟩
      obtain ⟨q, n', hx'⟩ := hx'
      refine ⟨.int .i64 c, ?_, by simp [Rel]⟩
      simp [execOp, resolve, invoke, builtin, hx', Builtin.cap_, run_underlying ht, goInt]
    · cases e
  · rename_i args ats
    split at e
    · rename_i l hl
      obtain ⟨r, hr, hrel⟩ := run_minmaxA w (lift_some e) (evs_sound h hl) ats type
      refine ⟨r, ?_, hrel⟩
      simp only [if_true] at hr
      simp only [execOp, resolve, Sem.run_bind, Sem.run_pure, Result.andThen_ok, invoke, builtin]
      rw [show args.map a.eval = (args.toList.map a.eval).toArray by apply Array.ext'; simp]
      rw [hr]; rfl
    · cases e
  · rename_i args ats
    split at e
    · rename_i l hl
      obtain ⟨r, hr, hrel⟩ := run_minmaxA w (lift_some e) (evs_sound h hl) ats type
      refine ⟨r, ?_, hrel⟩
      simp only [Bool.false_eq_true, if_false] at hr
      simp only [execOp, resolve, Sem.run_bind, Sem.run_pure, Result.andThen_ok, invoke, builtin]
      rw [show args.map a.eval = (args.toList.map a.eval).toArray by apply Array.ext'; simp]
      rw [hr]; rfl
    · cases e
  · cases e
end
end Go.Sy
