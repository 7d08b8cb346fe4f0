/- The abstract machine. -/
import Derived.Test.YtekedhfmdpbplaaDnC
import Derived.Room.Shelf.Join48
set_option linter.unusedSimpArgs false
set_option linter.unusedVariables false
/- The library's strings.Join, of which the kit's shelf tells what it comes to, as a function whose answer is told without its text; such lists put together. -/
namespace Go.Den
open Go Go.Shelf Go.RowKit

def strsA : List AV → Option (List (List UInt8))
  | [] => some []
  | a :: l => match a with
    | .str s => match strsA l with
      | some r => some (s :: r)
      | none => none
    | _ => none
theorem strsA_rel {ρ : Rho} : ∀ {l : List AV} {xs : List (List UInt8)} {vs : List Value}, strsA l = some xs → Rels ρ l vs → vs = xs.map fun x => .string ⟨x.toArray⟩
  | [], xs, vs, e, h => by
    cases e
    simpa [Rels] using h
  | a :: l, xs, vs, e, h => by
    simp only [Rels] at h
    obtain ⟨v, us, rfl, h1, h2⟩ := h
    simp only [strsA] at e
    split at e
    · split at e
      · rename_i s r hr
        cases e
        simp only [Rel] at h1
        subst h1
        rw [strsA_rel hr h2]
        rfl
      · cases e
    · cases e
def joinA (args : List AV) (st : St) : Option (AV × St) :=
  match args with
  | [.sl a len cap, .str c] => match a with
    | none => some (.str [], st)
    | some (b, off) => match st.read b off len with
      | none => none
      | some l => match strsA l with
        | none => none
        | some xs => match Nat.ble xs.length 1000000 && Nat.ble (Go.Lib.join xs c).length 281474976710656 with
          | true => some (.str (Go.Lib.join xs c), st)
          | false => none
  | _ => none
def joinPrim (g0 : FuncId) : FuncId → Option (List AV → St → Option (AV × St)) := fun g => match Nat.beq g g0 with
  | true => some joinA
  | false => none
section
variable {P : Program}
theorem answers_str {ρ : Rho} {h : Hp} {w : World} {st : St} (hr : HR ρ h w) (ha : Agree st h) (s : List UInt8) {e : Ending} {w' : World} (he : e = .returned (.string ⟨s.toArray⟩)) (hb : Below w.heap.size w w') : Answers P ρ h w st (.str s) st e w' := by
  subst he
  refine ⟨_, ρ, rfl, ?_, by simp [Rel]⟩
  rw [upd_self ha]
  exact ⟨fun _ _ e => e, fun id e => absurd rfl e, (upd_self ha).symm, hr.frame hb, ha, Nat.le_refl _, hb.os, hb.tape, hb.output, hb.size, fun B hB hf => ⟨hb.block B hB, hf⟩, fun _ _ _ _ => rfl⟩
theorem joinPrim_ok {r : Ren} (L : Go.Proofs.Lays.n156 P r) (X : Go.Proofs.Builder.Extra P r) : PrimOk P (joinPrim (r.f 156)) where
  mono := fun g f args st v st' e1 e2 => by
    unfold joinPrim at e1
    split at e1
    · cases e1
      unfold joinA at e2
      split at e2
      · split at e2
        · cases e2; exact Nat.le_refl _
        · split at e2
          · cases e2
          · split at e2
            · cases e2
            · split at e2
              · cases e2; exact Nat.le_refl _
              · cases e2
      · cases e2
    · cases e1
  calls := fun g f args st v st' e1 e2 ρ hp w vargs hr ha hf hrel => by
    unfold joinPrim at e1
    split at e1
    · rename_i hg
      cases e1
      obtain rfl : g = r.f 156 := Nat.eq_of_beq_eq_true hg
      have none : ∀ a c0 (c : List UInt8), Calls P (r.f 156) #[.slice a 0 c0, .string ⟨c.toArray⟩] w (Answers P ρ hp w st (.str []) st) := fun a c0 c => by
        refine (Go.Proofs.Any.strings_Join_none L X a c0 ⟨c.toArray⟩ w).mono ?_
        rintro e w' ⟨rfl, rfl⟩
        exact answers_str hr ha [] rfl (Below.refl _ _)
      unfold joinA at e2
      split at e2
      · rename_i a len cap c
        simp only [Rels] at hrel
        obtain ⟨v1, _, rfl, h1, v2, _, rfl, h2, rfl⟩ := hrel
        simp only [Rel] at h2
        subst h2
        split at e2
        · cases e2
          simp only [Rel] at h1
          obtain ⟨rfl, rfl, rfl⟩ := h1
          exact none _ _ c
        · rename_i b off
          split at e2
          · cases e2
          · rename_i l hl
            split at e2
            · cases e2
            · rename_i xs hxs
              split at e2
              · rename_i hok
                cases e2
                simp only [Bool.and_eq_true, Nat.ble_eq] at hok
                obtain ⟨ro, fam, cs, hb, hrd⟩ := St.read_some hl
                have hlt := St.read_lt hl
                have hlen : l.length = len := readL_length hrd
                have hxl : xs.length = len := by
                  have : ∀ (l : List AV) (xs : List (List UInt8)), strsA l = some xs → xs.length = l.length := by
                    intro l
                    induction l with
                    | nil => intro xs e; cases e; rfl
                    | cons a l ih =>
                      intro xs e
                      simp only [strsA] at e
                      split at e
                      · split at e
                        · rename_i r hr
                          cases e
                          simp [ih _ hr]
                        · cases e
                      · cases e
                  rw [this _ _ hxs, hlen]
                have hb' : hp b = some (.cells ro fam cs) := (ha.eq b hlt).trans hb
                have main : ∀ (B o rr capv : Nat), ρ b = some (B, o, rr) → len ≤ capv → Calls P (r.f 156) #[.slice (some ⟨B, o + off, Option.none⟩) len capv, .string ⟨c.toArray⟩] w (Answers P ρ hp w st (.str (Go.Lib.join xs c)) st) := by
                  intro B o rr capv hρ hcap
                  have hH := hr.cell b B o rr ro fam cs hρ hb'
                  obtain ⟨hle, hleq⟩ := readL_some hrd
                  obtain ⟨vs, hv, hcell⟩ := hH.vals
                  have hv2 := (hv.drop off).take len
                  rw [← hleq] at hv2
                  have hv3 := strsA_rel hxs hv2
                  have e1 : ((xs.map fun d => (⟨d.toArray⟩ : ByteArray)).map (·.data.toList)) = xs := by
                    rw [List.map_map]
                    exact (List.map_congr_left fun x _ => rfl).trans (List.map_id xs)
                  have h := Go.Proofs.Any.strings_Join_48 L X B (o + off) capv (xs.map fun d => ⟨d.toArray⟩) ⟨c.toArray⟩ w (fun j x hx => by
                    rw [Nat.add_assoc]
                    refine hcell (off + j) (.string x) ?_
                    have h5 : ((vs.drop off).take len)[j]? = some (.string x) := by
                      rw [hv3, List.getElem?_map]
                      rw [List.getElem?_map, Option.map_eq_some_iff] at hx
                      obtain ⟨d, hd, rfl⟩ := hx
                      rw [hd]
                      rfl
                    rw [List.getElem?_take] at h5
                    split at h5
                    · rwa [List.getElem?_drop] at h5
                    · cases h5) hH.lt (by simp; omega) (by simpa [hxl] using hcap) (by rw [e1]; exact hok.2)
                  rw [e1, List.length_map, hxl] at h
                  refine h.mono ?_
                  rintro e w' ⟨rfl, hbel⟩
                  exact answers_str hr ha _ rfl hbel
                cases cap with
                | known cc =>
                  simp only [Rel] at h1
                  obtain ⟨B, o, rr, hρ, hc, rfl⟩ := h1
                  exact main B o rr cc hρ hc
                | more lb sz =>
                  simp only [Rel] at h1
                  obtain ⟨B, o, rr, capv, hρ, h3, h4, h5, rfl | ⟨rfl, x, rfl⟩⟩ := h1
                  · exact main B o rr capv hρ (by omega)
                  · have : len = 0 := by omega
                    subst this
                    have hx0 : xs = [] := List.length_eq_zero_iff.1 hxl
                    subst hx0
                    simpa [Go.Lib.join] using none (some ⟨B, x, Option.none⟩) 0 c
              · cases e2
      · cases e2
    · cases e1

/-- Two such lists. -/
def orPrim (p q : FuncId → Option (List AV → St → Option (AV × St))) : FuncId → Option (List AV → St → Option (AV × St)) := fun g => match p g with
  | some f => some f
  | none => q g
theorem orPrim_ok {p q : FuncId → Option (List AV → St → Option (AV × St))} (hp : PrimOk P p) (hq : PrimOk P q) : PrimOk P (orPrim p q) where
  mono := fun g f args st v st' e1 e2 => by
    unfold orPrim at e1
    split at e1
    · rename_i f' hf; cases e1; exact hp.mono g f args st v st' hf e2
    · exact hq.mono g f args st v st' e1 e2
  calls := fun g f args st v st' e1 e2 => by
    unfold orPrim at e1
    split at e1
    · rename_i f' hf; cases e1; exact hp.calls g f args st v st' hf e2
    · exact hq.calls g f args st v st' e1 e2
end
end Go.Den
