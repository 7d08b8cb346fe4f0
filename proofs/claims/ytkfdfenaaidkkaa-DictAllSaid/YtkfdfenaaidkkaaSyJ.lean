/- append, copy, clear; stores. -/
import Derived.Test.YtkfdfenaaidkkaaSyI
set_option linter.unusedSimpArgs false
set_option linter.unusedVariables false
namespace Go.Sy
open Go

theorem freeze_get {b : Nat} {e : Sh} {l : List D} : ∀ (fr : List Nat) (s : St), (freeze s fr)[b]? = some (.tbl false e l) → s[b]? = some (.tbl false e l)
  | [], s, h => h
  | c :: cs, s, h => by
    simp only [freeze] at h
    split at h
    · rename_i x hx
      have := freeze_get cs _ h
      rw [List.getElem?_set] at this
      split at this
      · split at this
        · cases x <;> simp [freezeE] at this
        · cases this
      · exact this
    · exact freeze_get cs s h
theorem freeze_get' {b : Nat} {ro : Bool} {e : Sh} {l : List D} : ∀ (fr : List Nat) (s : St), (freeze s fr)[b]? = some (.tbl ro e l) → ∃ ro', s[b]? = some (.tbl ro' e l)
  | [], s, h => ⟨ro, h⟩
  | c :: cs, s, h => by
    simp only [freeze] at h
    split at h
    · rename_i x hx
      obtain ⟨ro', this⟩ := freeze_get' cs _ h
      rw [List.getElem?_set] at this
      split at this
      · split at this
        · rename_i hcb _
          subst hcb
          cases x <;> simp [freezeE] at this
          obtain ⟨_, rfl, rfl⟩ := this
          exact ⟨_, hx⟩
        · cases this
      · exact ⟨ro', this⟩
    · exact freeze_get' cs s h

theorem writeV_seg (us vs : List Value) (k sz fo : Nat) (hfo : fo + vs.length ≤ sz) :
    writeV us (k + fo) vs = us.take k ++ (writeV ((us.drop k).take sz) fo vs ++ us.drop (k + sz)) := by
  unfold writeV
  have h1 : us.take (k + fo) = us.take k ++ ((us.drop k).take sz).take fo := by
    rw [List.take_take, Nat.min_eq_left (by omega), List.take_add]
  have key : ∀ (X : List Value) (n : Nat), n ≤ sz → X.drop n = (X.take sz).drop n ++ X.drop sz := fun X n hn => by
    rw [List.drop_take, show X.drop sz = (X.drop n).drop (sz - n) by rw [List.drop_drop]; congr 1; omega, List.take_append_drop]
  have h2 : us.drop (k + fo + vs.length) = ((us.drop k).take sz).drop (fo + vs.length) ++ us.drop (k + sz) := by
    rw [show k + fo + vs.length = k + (fo + vs.length) by omega, ← List.drop_drop (i := fo + vs.length), ← List.drop_drop (i := sz)]
    exact key _ _ hfo
  rw [h1, h2]
  simp only [List.append_assoc]

section
variable {P : Program} {ρ : Rho} {h : Hp} {w : World} {s : St}

/-- Where there is room. -/
theorem run_append_in {t u0 ty e0 : TypeId} {d : TypeDesc} {base : Option Addr} {sLen sCap m sz : Nat} {xu : Value} {news : List Value}
    (ht : P.underlying t = some (.slice e0)) (hu : P.underlying u0 = some d) (hd : ∀ k, d ≠ .int k) (hs : sizeA P e0 = some sz) (hl : ∀ w, (Builtin.lenOf xu).run P w = .ok m w)
    (hf : (Builtin.firstCells sz m xu).run P w = .ok news.toArray w) (hroom : sLen + m ≤ sCap) {w' : World}
    (hst : (match base with | some a => storeCells (a.add (sLen * sz)) news | none => pure () : Sem Unit).run P w = .ok () w') :
    (Builtin.append_ #[t, u0] ty #[.slice base sLen sCap, xu]).run P w = .ok (.slice base (sLen + m) sCap) w' := by
  have hz : (match d with | .int _ => true | _ => false) = false := by cases d <;> first | rfl | exact absurd rfl (hd _)
  cases base with
  | none =>
    simp only [Sem.run_pure, Result.ok.injEq, true_and] at hst
    subst hst
    simp [Builtin.append_, run_underlying ht, run_underlying hu, run_sizeA hs, hz, hl, hroom, hf]
  | some a =>
    simp only at hst
    simp [Builtin.append_, run_underlying ht, run_underlying hu, run_sizeA hs, hz, hl, hroom, hf, hst]

/-- Where there is none: a new array. -/
theorem run_append_out {t u0 ty e0 : TypeId} {d : TypeDesc} {base : Option Addr} {sLen sCap m sz by_ : Nat} {xu : Value} {olds news : List Value} {z : AV}
    (ht : P.underlying t = some (.slice e0)) (hu : P.underlying u0 = some d) (hd : ∀ k, d ≠ .int k) (hs : sizeA P e0 = some sz) (hby : bytesA P e0 = some by_) (hz0 : zeroA P e0 = some z) (hzl : z.cells.length = sz)
    (hl : ∀ w, (Builtin.lenOf xu).run P w = .ok m w)
    (ho' : (Builtin.firstCells sz sLen (.slice base sLen sCap)).run P w.drew = .ok olds.toArray w.drew)
    (hf' : (Builtin.firstCells sz m xu).run P w.drew = .ok news.toArray w.drew)
    (hno : ¬ sLen + m ≤ sCap) (hb0 : 0 < by_) (hbytes : (3 * (sLen + m) + 2000) * by_ ≤ 281474976710656) :
    ∃ newCap rest, sLen + m ≤ newCap ∧ rest.length = (newCap - (sLen + m)) * sz ∧
      (Builtin.append_ #[t, u0] ty #[.slice base sLen sCap, xu]).run P w = .ok (.slice (some ⟨w.heap.size, 0, none⟩) (sLen + m) newCap) (w.drew.alloc (.cells (olds ++ news ++ rest).toArray e0)) := by
  have hz : (match d with | .int _ => true | _ => false) = false := by cases d <;> first | rfl | exact absurd rfl (hd _)
  obtain ⟨zv, hzr, hrel⟩ := run_zeroA hz0 ⟨fun _ => none, fun _ _ => none⟩
  have hzs := hrel.cells.length
  simp only [Array.length_toList] at hzs
  obtain ⟨i, hi, hib⟩ := run_bytesA hby
  have hti : ∀ w, (typeInfo e0).run P w = .ok i w := fun w => by simp [typeInfo, hi]
  have hcapge : sLen + m ≤ grownCap w (sLen + m) sCap e0 := grownCap_ge w _ _ _
  have hnx : ¬ Builtin.nextslicecap (sLen + m) sCap * i.bytes > 2 ^ 48 := by
    have h1 := nextslicecap_le (need := sLen + m) (old := sCap) (by omega)
    have h2 : Builtin.nextslicecap (sLen + m) sCap * i.bytes ≤ (3 * (sLen + m) + 2000) * by_ := by
      rw [hib]; exact Nat.mul_le_mul_right _ (by omega)
    omega
  have hcond : ¬ (((sLen + m : Nat) : Int) > IntKind.i64.max ∧ (false = true ∨ i.bytes = 0)) := fun hc => by
    rcases hc.2 with q | q
    · cases q
    · omega
  have hb00 : ¬ i.bytes = 0 := by omega
  have hrest : ∃ rest : List Value, Builtin.zeroCells zv.cells (grownCap w (sLen + m) sCap e0 - (sLen + m)) = rest.toArray ∧ rest.length = (grownCap w (sLen + m) sCap e0 - (sLen + m)) * sz := by
    refine ⟨(Builtin.zeroCells zv.cells (grownCap w (sLen + m) sCap e0 - (sLen + m))).toList, by simp, ?_⟩
    rw [Array.length_toList, size_zeroCells, hzs, hzl]
  obtain ⟨rest, hr1, hr2⟩ := hrest
  refine ⟨grownCap w (sLen + m) sCap e0, rest, hcapge, hr2, ?_⟩
  have hforced : (Question.appendCap (sLen + m) sCap e0).forced = false := rfl
  simp only [Builtin.append_, List.getElem?_toArray, List.getElem?_cons_zero, List.getElem?_cons_succ, Sem.run_bind, run_underlying ht, run_underlying hu, Result.andThen_ok, run_sizeA hs, Sem.run_pure, hz, Bool.false_eq_true, if_false, hl, if_neg hno, hti]
  simp only [Bool.not_false, if_true, Sem.run_ite, if_neg hcond, if_neg hnx, Sem.run_bind, run_choose, hforced, Bool.false_eq_true, if_false, Result.andThen_ok, run_askRoom, hti, World.drew_eq]
  rw [show ((Question.appendCap (sLen + m) sCap e0).cut (w.tape w.drawn (.appendCap (sLen + m) sCap e0))) = grownCap w (sLen + m) sCap e0 from rfl]
  simp only [ho', hf', Result.andThen_ok, hzr, hr1, newRow, Sem.run_bind, run_newObj, Sem.run_pure, World.size_drew]
  simp [World.alloc_eq, hb00]
  rfl


theorem run_ok {g : Bool} {v v' : AV} {s s' : St} {tch tch' : List Nat} (e : (RT.ok g v s tch).run = some (v', s', tch')) : g = true ∧ v' = v ∧ s' = s ∧ tch' = tch := by
  simp only [RT.run] at e
  split at e
  · cases e; exact ⟨rfl, rfl, rfl, rfl⟩
  · cases e

/- ### stores -/
theorem store_sound (hr : HR ρ h w) (ha : Agree s h) {t : TypeId} {p v x : AV} {pu vu : Value} {s' : St} {tch : List Nat} (e : (storeS P s t p v).run = some (x, s', tch)) (hp : Rel ρ p pu) (hv : Rel ρ v vu) :
    ∃ w' ρ', (Instr.storeAt t pu vu).run P w = .ok () w' ∧ Post ρ h w s ρ' (upd s' h) w' s' ∧ x = undefA := by
  unfold storeS at e
  split at e
  · cases e
  · rename_i n hn
    split at e
    · cases e
    · rename_i hchk
      simp only [Bool.and_eq_true] at hchk
      have hlen := hv.cells.length
      simp only [Array.length_toList] at hlen
      have hl' := beq_true_eq hchk.1
      have hone := hv.cells.oneCell hchk.2
      split at e
      · rename_i b off
        split at e
        · rename_i cs hb
          split at e
          · rename_i hfit
            have hfit := Nat.le_of_ble_eq_true hfit
            obtain ⟨_, rfl, rfl, rfl⟩ := run_ok e
            simp only [Rel] at hp
            obtain ⟨B, o, r, hρ, rfl⟩ := hp
            obtain ⟨h1, h2⟩ := write_post (P := P) (off := off) (x' := .cells (writeL cs off v.cells)) (cs' := writeL cs off v.cells) (vs := vu.cells.toList) hr ha hb rfl hρ (by simp; omega) hone (by rw [writeL_length _ _ _ hfit]) (fun us hus => hus.write hv.cells) rfl
            refine ⟨_, ρ, ?_, h2, rfl⟩
            simp [Instr.storeAt, Instr.sureAddr, storeVar, run_sizeA hn, hlen, hl', h1]
          · cases e
        · cases e
      · rename_i sh b i fo
        split at e
        · rename_i e' l hb
          split at e
          · cases e
          · rename_i hbe
            simp only [Bool.and_eq_true] at hbe
            have he := Sh.beq_eq _ _ hbe.1
            subst he
            have hfo := Nat.le_of_ble_eq_true hbe.2
            split at e
            · rename_i g d fr hc
              split at e
              · rename_i e1 l1 hfb
                obtain ⟨hg, rfl, rfl, rfl⟩ := run_ok e
                simp only [Bool.and_eq_true, decide_eq_true_eq] at hg
                obtain ⟨rfl, hi⟩ := hg
                simp only [Rel] at hp
                obtain ⟨B, o, r, hρ, rfl⟩ := hp
                have hbl : b < s.length := (List.getElem?_eq_some_iff.1 hb).1
                have H := hr.cell b B o r _ false _ hρ (by rw [ha b hbl]; exact hb) rfl
                obtain ⟨us0, u1, _, _⟩ := H.vals
                -- the blocks that must not be written any more
                have hsegR : ∀ (ρ1 : Rho) us, Rels ρ1 (flat sh l) us → Rels ρ1 (expand sh (l.getD i .nul)) ((us.drop (i * sh.size)).take sh.size) := fun ρ1 us hus => by
                  rw [← flat_getD sh l i hi]
                  exact (hus.drop _).take _
                have hids := (coll_ids (hr.cellsOf ha) sh _ _ true d [] fr hc ((hsegR ρ us0 u1).write hv.cells)).1
                obtain ⟨ρ1, hp1, hat, hF⟩ := freeze_post fr hr ha hids
                have hfb' := freeze_get fr s hfb
                rw [hb] at hfb'; cases hfb'
                have hseg : ∀ us, Rels ρ1 (flat sh l) us → Rels ρ1 (flat sh (l.set i d)) (writeV us (i * sh.size + fo) vu.cells.toList) := fun us hus => by
                  have hw1 := (hsegR ρ1 us hus).write (off := fo) (Rels.mono hp1.ext _ _ hv.cells)
                  obtain ⟨c1, c2⟩ := coll_sound (ρ := ρ1) (s := s) sh _ _ d [] fr hc hw1 hF
                  have hul := hus.length
                  rw [flat_length] at hul
                  have hnil := c2.length
                  have htake : (writeV ((us.drop (i * sh.size)).take sh.size) fo vu.cells.toList).take sh.size = writeV ((us.drop (i * sh.size)).take sh.size) fo vu.cells.toList := by
                    apply List.take_of_length_le
                    simp only [List.length_drop, List.length_nil] at hnil
                    omega
                  rw [htake] at c1
                  rw [flat_set sh l i d hi, writeV_seg _ _ _ sh.size _ (by simp; omega), show i * sh.size + sh.size = (i + 1) * sh.size by rw [Nat.add_mul]; omega]
                  exact (hus.take _).append (((rels_expand _ _ _).1 c1).append (hus.drop _))
                have hpos : i * sh.size + fo + vu.cells.toList.length ≤ (flat sh l).length := by
                  rw [flat_length]
                  have : (i + 1) * sh.size ≤ l.length * sh.size := Nat.mul_le_mul_right _ hi
                  rw [Nat.add_mul] at this
                  simp
                  omega
                obtain ⟨h1, h2⟩ := write_post (P := P) (off := i * sh.size + fo) (x' := .tbl false sh (l.set i d)) (cs' := flat sh (l.set i d)) (vs := vu.cells.toList) hp1.hr hp1.agree hfb rfl (by rw [hat]; exact hρ) hpos hone (by rw [flat_length, flat_length, List.length_set]) hseg rfl
                have h3 := hp1.trans h2
                rw [upd_upd (by rw [List.length_set]; exact Nat.le_refl _)] at h3
                refine ⟨_, ρ1, ?_, h3, rfl⟩
                simp [Instr.storeAt, Instr.sureAddr, storeVar, run_sizeA hn, hlen, hl', h1]
              · cases e
            · cases e
        · cases e
      · cases e

/- ### copy, clear -/
theorem Rel.tsl_addr {nn : Bool} {e : Sh} {b off len : Nat} {cap : Cap} {u : Value} (hx : Rel ρ (.tsl nn e b off len cap) u) : ∃ B o r, ρ b = some (B, o, r) ∧ ((∃ c, u = .slice (some ⟨B, o + off * e.size, none⟩) len c ∧ off * e.size + len * e.size ≤ r) ∨ (len = 0 ∧ ∃ p, u = .slice p 0 0)) := by
  simp only [Rel] at hx
  obtain ⟨B, o, r, hρ, ⟨_, rfl, _, _, rfl⟩ | ⟨c, h1, h2, _, h4, rfl | ⟨rfl, x, rfl⟩⟩⟩ := hx
  · exact ⟨B, o, r, hρ, .inr ⟨rfl, _, rfl⟩⟩
  · refine ⟨B, o, r, hρ, .inl ⟨c, rfl, ?_⟩⟩
    have : len * e.size ≤ c * e.size := Nat.mul_le_mul_right _ (by omega)
    omega
  · have hlen0 : len = 0 := by omega
    subst hlen0
    exact ⟨B, o, r, hρ, .inr ⟨rfl, _, rfl⟩⟩
theorem flat_mid {e : Sh} {l new : List D} {off : Nat} {us vs : List Value} (hu : Rels ρ (flat e l) us) (hv : Rels ρ (flat e new) vs) : Rels ρ (flat e (l.take off ++ (new ++ l.drop (off + new.length)))) (writeV us (off * e.size) vs) := by
  have hl := hv.length
  rw [flat_length] at hl
  unfold writeV
  rw [flat_append, flat_append, flat_take, flat_drop, Nat.add_mul, hl]
  exact (hu.take _).append (hv.append (hu.drop _))
theorem copy_sound (hr : HR ρ h w) (ha : Agree s h) {e0 t u0 ty : TypeId} {d x v : AV} {du xu : Value} {s' : St} {tch : List Nat} (ht : P.underlying t = some (.slice e0)) (e : (copyS P s e0 d x).run = some (v, s', tch)) (hd : Rel ρ d du) (hx : Rel ρ x xu) :
    ∃ r w', (Builtin.copy_ #[t, u0] ty #[du, xu]).run P w = .ok r w' ∧ Post ρ h w s ρ (upd s' h) w' s' ∧ Rel ρ v r := by
  unfold copyS at e
  split at e
  · rename_i sh hsh
    obtain ⟨hsz, _⟩ := shT_some hsh
    split at e
    · rename_i g new sure hsrc
      split at e
      · rename_i nn e' b off len cap
        split at e
        · rename_i e'' l hb
          split at e
          · rename_i hbe
            simp only [Bool.and_eq_true] at hbe
            have e1 := Sh.beq_eq _ _ hbe.1
            have e2 := Sh.beq_eq _ _ hbe.2
            subst e1; subst e2
            obtain ⟨hg, rfl, rfl, rfl⟩ := run_ok e
            simp only [Bool.and_eq_true] at hg
            obtain ⟨rfl, hle⟩ := hg
            have hle := Nat.le_of_ble_eq_true hle
            obtain ⟨⟨vs, hS⟩, _⟩ := src_sound (P := P) w hr ha hsrc hx Rho.le.rfl hr.fzh (fun b hb => by simp at hb)
            obtain ⟨B, o, r, hρ, hu⟩ := hd.tsl_addr
            have hmin : Nat.min new.length len ≤ new.length := Nat.min_le_left _ _
            have hrun : (Builtin.firstCells sh.size (Nat.min new.length len) xu).run P w = .ok (vs.take (Nat.min new.length len * sh.size)).toArray w := hS.run w.drawn _ hmin
            have htk : (new.take len).length = Nat.min new.length len := by rw [List.length_take, Nat.min_comm]
            have hrel : Rels ρ (flat sh (new.take len)) (vs.take (Nat.min new.length len * sh.size)) := by
              have : new.take len = new.take (Nat.min new.length len) := by
                rw [show Nat.min new.length len = min len new.length from Nat.min_comm _ _, List.take_eq_take_min]
              rw [this, flat_take]
              exact hS.rel.take _
            have hvl := hrel.length
            rw [flat_length, htk] at hvl
            obtain ⟨h1, h2⟩ := write_post (P := P) (off := off * sh.size) (x' := .tbl false sh (l.take off ++ (new.take len ++ l.drop (off + Nat.min new.length len)))) (cs' := flat sh (l.take off ++ (new.take len ++ l.drop (off + Nat.min new.length len)))) (vs := vs.take (Nat.min new.length len * sh.size)) hr ha hb rfl hρ
              (by
                rw [hvl, flat_length, ← Nat.add_mul]
                have : Nat.min new.length len ≤ len := Nat.min_le_right _ _
                exact Nat.mul_le_mul_right _ (by omega))
              (hrel.oneCell (scalars_flat _ _))
              (by
                rw [flat_length, flat_length]
                congr 1
                have : Nat.min new.length len ≤ len := Nat.min_le_right _ _
                simp only [List.length_append, List.length_take, List.length_drop, htk]
                rw [← htk, List.length_take] at this ⊢
                omega)
              (fun us hus => by
                have := flat_mid (off := off) hus hrel
                rwa [htk] at this) rfl
            refine ⟨.int .i64 (Nat.min new.length len), _, ?_, h2, by simp [Rel]⟩
            rcases hu with ⟨c, rfl, _⟩ | ⟨rfl, p, rfl⟩
            · simp [Builtin.copy_, run_underlying ht, hS.len, run_sizeA hsz, hrun, goInt, h1]
            · rw [show Nat.min new.length 0 = 0 from Nat.min_zero _] at hrun h1 ⊢
              simp only [Nat.zero_mul, List.take_zero] at hrun h1 ⊢
              cases p <;> simp [Builtin.copy_, run_underlying ht, hS.len, run_sizeA hsz, hrun, goInt, storeCells, World.setCells]
          · cases e
        · cases e
      · obtain ⟨hg, rfl, rfl, rfl⟩ := run_ok e
        subst hg
        simp only [Rel] at hd
        subst hd
        obtain ⟨⟨vs, hS⟩, _⟩ := src_sound (P := P) w hr ha hsrc hx Rho.le.rfl hr.fzh (fun b hb => by simp at hb)
        have hrun : (Builtin.firstCells sh.size 0 xu).run P w = .ok (vs.take (0 * sh.size)).toArray w := hS.run w.drawn 0 (Nat.zero_le _)
        refine ⟨.int .i64 0, w, ?_, Post.refl hr ha, by simp [Rel]⟩
        simp at hrun
        simp [Builtin.copy_, run_underlying ht, hS.len, run_sizeA hsz, hrun, goInt]
      · cases e
    · cases e
  · cases e
theorem clear_sound (hr : HR ρ h w) (ha : Agree s h) {e0 t ty : TypeId} {d v : AV} {du : Value} {s' : St} {tch : List Nat} (ht : P.underlying t = some (.slice e0)) (e : (clearS P s e0 d).run = some (v, s', tch)) (hd : Rel ρ d du) :
    ∃ r w', (Builtin.clear_ #[t] ty #[du]).run P w = .ok r w' ∧ Post ρ h w s ρ (upd s' h) w' s' ∧ Rel ρ v r := by
  unfold clearS at e
  split at e
  · rename_i sh hsh
    obtain ⟨hsz, z, hz, hzl, hznul⟩ := shT_some hsh
    split at e
    · rename_i nn e' b off len cap
      split at e
      · rename_i e'' l hb
        split at e
        · rename_i hbe
          simp only [Bool.and_eq_true] at hbe
          have e1 := Sh.beq_eq _ _ hbe.1
          have e2 := Sh.beq_eq _ _ hbe.2
          subst e1; subst e2
          obtain ⟨hg, rfl, rfl, rfl⟩ := run_ok e
          simp only [Bool.and_eq_true] at hg
          have hpos := hg.1
          simp only [Nat.blt_eq] at hpos
          have hle := Nat.le_of_ble_eq_true hg.2
          obtain ⟨B, o, r, hρ, hu⟩ := hd.tsl_addr
          obtain ⟨zv, hzr, hrel⟩ := run_zeroA hz ρ
          have hzs : zv.cells.size = sh.size := by have := hrel.cells.length; simp only [Array.length_toList] at this; omega
          have hflat : Rels ρ (flat sh (List.replicate len .nul)) (timesV len zv.cells.toList) := by
            rw [flat_replicate]
            exact Rels.times (hznul ρ _ hrel.cells) _
          have hvl := hflat.length
          rw [flat_length, List.length_replicate] at hvl
          obtain ⟨h1, h2⟩ := write_post (P := P) (off := off * sh.size) (x' := .tbl false sh (l.take off ++ (List.replicate len .nul ++ l.drop (off + len)))) (cs' := flat sh (l.take off ++ (List.replicate len .nul ++ l.drop (off + len)))) (vs := timesV len zv.cells.toList) hr ha hb rfl hρ
            (by rw [hvl, flat_length, ← Nat.add_mul]; exact Nat.mul_le_mul_right _ hle)
            (hflat.oneCell (scalars_flat _ _))
            (by rw [flat_length, flat_length]; congr 1; simp; omega)
            (fun us hus => by
              have := flat_mid (off := off) hus hflat
              rwa [List.length_replicate] at this) rfl
          refine ⟨.tuple #[], _, ?_, h2, by simp [Rel, Rels]⟩
          rcases hu with ⟨c, rfl, _⟩ | ⟨rfl, p, rfl⟩
          · rcases Nat.eq_zero_or_pos len with rfl | hlpos
            · have : timesV 0 zv.cells.toList = [] := rfl
              rw [this]
              simp [Builtin.clear_, run_underlying ht, World.setCells]
            · obtain ⟨k, rfl⟩ : ∃ k, len = k + 1 := ⟨len - 1, by omega⟩
              simp [Builtin.clear_, run_underlying ht, hzr, zeroCells_times _ _ (show 0 < zv.cells.size ∨ k + 1 = 0 by left; omega), h1]
          · have : timesV 0 zv.cells.toList = [] := rfl
            rw [this]
            cases p <;> simp [Builtin.clear_, run_underlying ht, World.setCells]
        · cases e
      · cases e
    · obtain ⟨_, rfl, rfl, rfl⟩ := run_ok e
      simp only [Rel] at hd
      subst hd
      refine ⟨.tuple #[], w, ?_, Post.refl hr ha, by simp [Rel, Rels]⟩
      simp [Builtin.clear_, run_underlying ht]
    · cases e
  · cases e
end
end Go.Sy
