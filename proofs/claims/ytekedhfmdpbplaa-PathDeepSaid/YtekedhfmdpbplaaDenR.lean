/- Regions, code, calls: the abstract machine is right. -/
import Derived.Test.YtekedhfmdpbplaaDenQ
set_option linter.unusedSimpArgs false
set_option linter.unusedVariables false
namespace Go.Den
open Go

section
variable {P : Program} {call : CallA}

theorem trace_spec {ops : Array Oper} : ∀ (os : List Oper) (acc : List (List AV × St)) (t : List AV) (s : St) (res : List (List AV × St)), traceA P call ops os acc t s = some res →
    ∃ f : Nat → List AV × St, f 0 = (t, s) ∧ (∀ (p : Nat) (o : Oper), os[p]? = some o → stepA P call ops o (f p).1 (f p).2 = some (f (p + 1))) ∧ res.reverse = acc.reverse ++ (List.range (os.length + 1)).map f ∧ res.head? = some (f os.length)
  | [], acc, t, s, res, e => by
    simp only [traceA] at e; cases e
    refine ⟨fun _ => (t, s), rfl, fun p o h => by simp at h, by simp, by simp⟩
  | o :: os, acc, t, s, res, e => by
    simp only [traceA] at e
    split at e
    · rename_i t' s' hst
      obtain ⟨f, f0, f1, f2, f3⟩ := trace_spec os _ t' s' res e
      refine ⟨fun p => match p with | 0 => (t, s) | p + 1 => f p, rfl, fun p o' h => ?_, ?_, by simpa using f3⟩
      · cases p with
        | zero => simp at h; subst h; simp only; rw [hst, f0]
        | succ p => simp at h; exact f1 p o' h
      · rw [f2]
        simp only [List.reverse_cons, List.append_assoc, List.singleton_append, List.length_cons]
        congr 1
        rw [show List.range (os.length + 1 + 1) = 0 :: (List.range (os.length + 1)).map Nat.succ from List.range_succ_eq_map, List.map_cons, List.map_map]
        rfl
    · cases e

theorem readOk_spec {ops : Array Oper} {bef : List Nat} {i b off n : Nat} {want : Option (List AV)} : ∀ (os : List Oper) (e : Nat) (tr : List (List AV × St)), readOkA P ops bef i b off n want e os tr = true →
    ∀ (q : Nat) (o : Oper) (x y : List AV × St), os[q]? = some o → tr[q]? = some x → tr[q + 1]? = some y → isEff P o.op = true → guardA ops x.1 o = true → ordA bef i (e + q) = false → ordA bef (e + q) i = false → leavesA b off n want x.2 y.2 = true
  | [], e, tr, h, q, o, x, y, h1, _, _, _, _, _, _ => by simp at h1
  | o0 :: os, e, [], h, q, o, x, y, _, h2, _, _, _, _, _ => by simp at h2
  | o0 :: os, e, [x0], h, q, o, x, y, _, _, h3, _, _, _, _ => by simp at h3
  | o0 :: os, e, (t, s) :: (t', s') :: tr, h, q, o, x, y, h1, h2, h3, h4, h5, h6, h7 => by
    simp only [readOkA, Bool.and_eq_true] at h
    cases q with
    | zero =>
      simp at h1 h2 h3
      subst h1 h2 h3
      have := h.1
      simp only [Nat.add_zero] at h6 h7
      rw [h4, h5, h6, h7] at this
      simpa using this
    | succ q =>
      simp only [List.getElem?_cons_succ] at h1 h2 h3
      exact readOk_spec os (e + 1) ((t', s') :: tr) h.2 q o x y h1 h2 h3 h4 h5 (by rw [show e + 1 + q = e + (q + 1) by omega]; exact h6) (by rw [show e + 1 + q = e + (q + 1) by omega]; exact h7)
theorem stable_spec {ops : Array Oper} {bef : List Nat} {all : List Oper} {alltr : List (List AV × St)} : ∀ (os : List Oper) (i : Nat) (tr : List (List AV × St)), stableA P ops bef all alltr i os tr = true →
    ∀ (p : Nat) (o : Oper) (x : List AV × St), os[p]? = some o → tr[p]? = some x → isRead P o.op = true → guardA ops x.1 o = true →
      ∃ b off k mk, readA P x.1 o.op = some (b, off, k, mk) ∧ readOkA P ops bef (i + p) b off k (x.2.read b off k) 0 all alltr = true
  | [], i, tr, h, p, o, x, h1, _, _, _ => by simp at h1
  | o0 :: os, i, [], h, p, o, x, _, h2, _, _ => by simp at h2
  | o0 :: os, i, (t, s) :: tr, h, p, o, x, h1, h2, h3, h4 => by
    simp only [stableA, Bool.and_eq_true] at h
    cases p with
    | zero =>
      simp at h1 h2
      subst h1 h2
      have := h.1
      rw [h3, h4] at this
      simp only [Bool.not_true, Bool.false_or] at this
      split at this
      · rename_i b off k mk hr
        exact ⟨b, off, k, mk, hr, this⟩
      · cases this
    | succ p =>
      simp only [List.getElem?_cons_succ] at h1 h2
      have := stable_spec os (i + 1) tr h.2 p o x h1 h2 h3 h4
      rwa [show i + 1 + p = i + (p + 1) by omega] at this

/-- A sequence of operations, as a trace. -/
theorem ops_trace {ops : Array Oper} : ∀ (os : List Oper) (t : List AV) (s : St) (t' : List AV) (s' : St), opsA P call ops os t s = some (t', s') →
    ∃ f : Nat → List AV × St, f 0 = (t, s) ∧ (∀ (p : Nat) (o : Oper), os[p]? = some o → stepA P call ops o (f p).1 (f p).2 = some (f (p + 1))) ∧ f os.length = (t', s')
  | [], t, s, t', s', e => by
    simp only [opsA] at e; cases e
    exact ⟨fun _ => (t, s), rfl, fun p o h => by simp at h, rfl⟩
  | o :: os, t, s, t', s', e => by
    simp only [opsA] at e
    split at e
    · rename_i t1 s1 hst
      obtain ⟨f, f0, f1, f2⟩ := ops_trace os t1 s1 t' s' e
      refine ⟨fun p => match p with | 0 => (t, s) | p + 1 => f p, rfl, fun p o' h => ?_, by simpa using f2⟩
      cases p with
      | zero => simp at h; subst h; simp only; rw [hst, f0]
      | succ p => simp at h; exact f1 p o' h
    · cases e
theorem quiet_spec {ops : Array Oper} {bef : List Nat} (h : quietA P ops bef = true) {p e : Nat} {o oe : Oper} (ho : ops[p]? = some o) (hR : isRead P o.op = true) (he : ops[e]? = some oe) (hE : isEff P oe.op = true) : ordA bef p e = true ∨ ordA bef e p = true := by
  unfold quietA at h
  have hp : p < ops.size := (Array.getElem?_eq_some_iff.1 ho).1
  have hq : e < ops.size := (Array.getElem?_eq_some_iff.1 he).1
  have h1 := List.all_eq_true.1 h p (List.mem_range.2 hp)
  rw [ho] at h1
  simp only [hR, Bool.not_true, Bool.false_or] at h1
  have h2 := List.all_eq_true.1 h1 e (List.mem_range.2 hq)
  rw [he] at h2
  simpa [hE] using h2
theorem read_there {t : List AV} {s : St} {ops : Array Oper} {o : Oper} {x : List AV × St} (hR : isRead P o.op = true) (hg : guardA ops t o = true) (e : stepA P call ops o t s = some x) : ∃ b off k mk, readA P t o.op = some (b, off, k, mk) := by
  unfold stepA at e
  rw [hg] at e
  simp only at e
  unfold opA at e
  unfold isRead at hR
  split at hR
  · rename_i hc
    rw [hc] at e
    simp only at e
    split at e
    · rename_i v st1 hv
      split at hv
      · rename_i b off k mk hr
        exact ⟨b, off, k, mk, hr⟩
      · cases hv
    · cases e
  · cases hR

theorem bits_spec (acc : List Nat) (i : Nat) : ∀ (es : List Edge), (bitsA acc es).testBit i = true → ∃ e, e ∈ es ∧ Region.binds .any e = true ∧ (i = e.on ∨ (acc.getD e.on 0).testBit i = true)
  | [], h => by simp [bitsA] at h
  | e :: es, h => by
    simp only [bitsA] at h
    split at h
    · rename_i hb
      rw [Nat.testBit_or, Nat.testBit_or, Nat.testBit_two_pow, Bool.or_eq_true, Bool.or_eq_true] at h
      rcases h with (h | h) | h
      · obtain ⟨e', h1, h2, h3⟩ := bits_spec acc i es h
        exact ⟨e', List.mem_cons_of_mem _ h1, h2, h3⟩
      · exact ⟨e, by simp, hb, .inl (by simp at h; exact h.symm)⟩
      · exact ⟨e, by simp, hb, .inr h⟩
    · obtain ⟨e', h1, h2, h3⟩ := bits_spec acc i es h
      exact ⟨e', List.mem_cons_of_mem _ h1, h2, h3⟩
theorem bef_spec : ∀ (os : List Oper) (acc : List Nat), ∃ rest, befA acc os = acc ++ rest ∧ rest.length = os.length ∧ ∀ (p : Nat) (o : Oper), os[p]? = some o → rest[p]? = some (bitsA (acc ++ rest.take p) o.after.toList)
  | [], acc => ⟨[], by simp [befA], rfl, fun p o h => by simp at h⟩
  | o :: os, acc => by
    obtain ⟨rest, h1, h2, h3⟩ := bef_spec os (acc ++ [bitsA acc o.after.toList])
    refine ⟨bitsA acc o.after.toList :: rest, by simp [befA, h1], by simp [h2], fun p o' h => ?_⟩
    cases p with
    | zero => simp at h; subst h; simp
    | succ p =>
      simp at h
      have := h3 p o' h
      simpa using this
theorem bef_closed {ops : Array Oper} (L : Nat → Prop) (hL : ∀ (j : Nat) (o : Oper) (e : Edge), ops[j]? = some o → L j → e ∈ o.after.toList → Region.binds .any e = true → L e.on) :
    ∀ i j o, ops[j]? = some o → L j → ordA (befA [] ops.toList) i j = true → L i := by
  intro i j
  obtain ⟨rest, h1, h2, h3⟩ := bef_spec ops.toList []
  rw [h1]
  simp only [List.nil_append] at h3 ⊢
  have key : ∀ j, (∃ o, ops[j]? = some o) → L j → ∀ i, (rest.getD j 0).testBit i = true → L i := by
    intro j
    induction j using Nat.strongRecOn with
    | _ j ih =>
      rintro ⟨o, ho⟩ hj i hi
      have ho' : ops.toList[j]? = some o := by simpa using ho
      have hr := h3 j o ho'
      simp only [List.getD, hr, Option.getD_some] at hi
      obtain ⟨e, he1, he2, he3⟩ := bits_spec _ i _ hi
      have hLe := hL j o e ho hj he1 he2
      rcases he3 with rfl | he3
      · exact hLe
      · have hlt : e.on < j := by
          rcases Nat.lt_or_ge e.on j with h | h
          · exact h
          · rw [List.getD, List.getElem?_eq_none (by simp; omega)] at he3
            simp at he3
        refine ih e.on hlt ?_ hLe i ?_
        · have hj' : j < ops.size := (Array.getElem?_eq_some_iff.1 ho).1
          exact ⟨ops[e.on]'(by omega), Array.getElem?_eq_getElem (by omega)⟩
        · rw [List.getD, List.getElem?_take, if_pos hlt] at he3
          exact he3
  intro o ho hj hi
  exact key j ⟨o, ho⟩ hj i hi

theorem drawOk_spec {ops : Array Oper} (h : drawOkA P ops = true) :
    (∀ (i j : Nat) (x y : Oper), i < j → ops[i]? = some x → ops[j]? = some y → ordA (befA [] ops.toList) i j = true ∨ (x.apart ops y = true ∧ ¬ (isEff P x.op = true ∧ isEff P y.op = true))) ∧
    (∀ (j : Nat) (o : Oper) (e : Edge), ops[j]? = some o → e ∈ o.after.toList → Region.binds .any e = true → e.on < j) := by
  unfold drawOkA at h
  simp only [List.all_eq_true, List.mem_range, Bool.and_eq_true] at h
  refine ⟨fun i j x y hij hx hy => ?_, fun j o e ho he hb => ?_⟩
  · have hj : j < ops.size := (Array.getElem?_eq_some_iff.1 hy).1
    have := (h j hj).2 i hij
    unfold pairOk at this
    rw [hx, hy] at this
    simp only [Bool.or_eq_true, Bool.and_eq_true, Bool.not_eq_true'] at this
    refine this.imp id (fun ⟨a, b⟩ => ⟨a, fun ⟨c, d⟩ => ?_⟩)
    rw [c, d] at b; cases b
  · have hj : j < ops.size := (Array.getElem?_eq_some_iff.1 ho).1
    have := (h j hj).1
    unfold edgesOk at this
    rw [ho] at this
    simp only at this
    rw [Array.all_eq_true_iff_forall_mem] at this
    have := this e (Array.mem_toList_iff.1 he)
    rw [hb] at this
    simpa [Nat.blt_eq] using this

variable {ρ : Rho} {h : Hp} {w : World} {st : St} {tmps : List AV} {a : Act}

theorem region_n (hc : CallOk P call) {ops : Array Oper} {draw : Bool} {tmps' : List AV} {st' : St} (e : regionA P call ops draw tmps st = some (tmps', st')) : st.n ≤ st'.n := by
  unfold regionA at e
  split at e
  · exact ops_n hc _ _ _ _ _ e
  · split at e
    · rename_i last tr htr
      split at e
      · cases e
        obtain ⟨f, f0, f1, f2, f3⟩ := trace_spec _ _ _ _ _ htr
        simp only [List.head?_cons, Option.some.injEq] at f3
        have : ∀ q, q ≤ ops.toList.length → st.n ≤ (f q).2.n := by
          intro q
          induction q with
          | zero => intro _; rw [f0]; exact Nat.le_refl _
          | succ q ih =>
            intro hq
            have e1 := f1 q ops.toList[q] (List.getElem?_eq_getElem (by omega))
            exact Nat.le_trans (ih (by omega)) (step_n hc e1)
        have := this _ (Nat.le_refl _)
        rw [← f3] at this
        exact this
      · cases e
    · cases e

theorem region_any (ok : ProgOk P) (hc : CallOk P call) {id : Nat} {ops : Array Oper} {tmps' : List AV} {st' : St} (f : Nat → List AV × St) (f0 : f 0 = (tmps, st)) (f3 : (tmps', st') = f ops.size)
    (X : Text P call ops (befA [] ops.toList) (fun p => (f p).1) (fun p => (f p).2))
    (hr : HR ρ h w) (ha : Agree st h) (htr : TR ρ tmps a.tmps) (hf : Fresh ρ h st st') {Q : Exit → Act → World → Prop}
    (hk : ∀ ρ' w' a', Post ρ h w st ρ' (upd st' h) w' st' → TR ρ' tmps' a'.tmps → a'.defers = a.defers → Q .normal a' w') : (Code.region id ops true).wp P Q a w := by
  have hS0 : (f 0).2 = st := by rw [f0]
  have hT0 : (f 0).1 = tmps := by rw [f0]
  have hfin : f ops.size = (tmps', st') := f3.symm
  have hSn : (f ops.size).2 = st' := by rw [hfin]
  have hf' : Fresh ρ h ((fun p => (f p).2) 0) ((fun p => (f p).2) ops.size) := by simp only [hS0, hSn]; exact hf
  -- where the heap stands at the beginning
  have hbeg : ∀ i, ρ i ≠ none → hS (fun p => (f p).2) ops.size h 0 i = h i := fun i hi => by
    unfold hS
    simp only [hS0]
    split
    · rename_i hlt; exact (ha.eq i hlt).symm
    · rename_i hlt
      rcases Nat.lt_or_ge i st'.n with h3 | h3
      · exact absurd (hf.none i (by omega) h3) hi
      · exact birth_far hc X (by simp only [hSn]; exact h3)
  have hHR0 : HR ρ (hS (fun p => (f p).2) ops.size h 0) w := by
    refine hr.congr hbeg (fun i ro rt b cs hi hcs => ?_)
    have hin : i < st.n := by
      rcases Nat.lt_or_ge i st.n with h1 | h1
      · exact h1
      · rcases Nat.lt_or_ge i st'.n with h2 | h2
        · exact absurd (hf.none i h1 h2) hi
        · exact absurd hcs (hf.far i h2 hi ro (rt, b) cs)
    rw [ha.eq i hin] at hcs
    have hrt := ha.ref i ro rt b cs hcs
    unfold hS
    simp only [hS0]
    rw [if_pos hrt, ha.eq rt hrt]
  refine wp_region_any ok.orders ?_
  refine any_sound (ρ0 := ρ) (h0 := h) (w0 := w) (d0 := a.defers) ok hc X hf' ?_ ops.size (Array.replicate ops.size false) ρ 0 tmps a { w with drawn := w.drawn + 1 } (by simp) ?_ ?_
  · -- the end
    intro L ρ' c C a' w' hall I
    have hE : ∀ (k : Nat) (o : Oper), c ≤ k → k < ops.size → ops[k]? = some o → isEff P o.op = false := fun k o h1 h2 ho => by
      cases hh : isEff P o.op with
      | false => rfl
      | true => have := (I.cut k o ho hh).1 (hall k h2); omega
    have I' := I.advTo hc X ops.size I.cn (Nat.le_refl _) hE
    have hSend : hS (fun p => (f p).2) ops.size h ops.size = upd st' h := by
      funext i
      unfold hS upd
      simp only [hSn]
      split
      · rfl
      · rename_i hlt
        exact birth_far hc X (by simp only [hSn]; omega)
    have hn0 : ∀ q, q ≤ ops.size → st.n ≤ (f q).2.n := fun q hq => by have := X.n_mono hc (p := 0) q hq (by omega); simpa only [hS0] using this
    have hne : ∀ q, q ≤ ops.size → (f q).2.n ≤ st'.n := fun q hq => by have := X.n_mono hc (p := q) ops.size (Nat.le_refl _) hq; simpa only [hSn] using this
    refine hk ρ' w' a' ⟨I'.le, fun i hi => ?_, rfl, ?_, ?_, by have := hn0 ops.size (Nat.le_refl _); rw [hSn] at this; exact this, I'.os, I'.tape, I'.output, I'.size, fun B hB hfr => ?_, fun i hi h1 h2 => ?_⟩ ⟨?_, fun t => ?_⟩ I'.defers
    · obtain ⟨q, h1, h2, h3⟩ := I'.dom i hi
      have hq := I'.lt q h1
      have := hn0 q (by omega)
      have := hne (q + 1) (by omega)
      have h2' : (f q).2.n ≤ i := h2
      have h3' : i < (f (q + 1)).2.n := h3
      omega
    · rw [← hSend]; exact I'.hr
    · have := I'.ag
      rw [hSend] at this
      simpa only [hSn] using this
    · have := I'.frame B hB hfr
      rw [hSend] at this
      exact this
    · have := I'.idle i (by simp only [hS0]; exact hi) h1 (by simp only [hS0]; exact h2)
      simpa only [hS0, hSn] using this
    · have h1 := X.length ops.size (Nat.le_refl _)
      simp only [hfin, hT0] at h1
      have h2 := I'.tr.1
      have h3 := I'.clen
      simp only [hT0] at h3
      omega
    · obtain ⟨i, hi, e1, e2, e3⟩ := I'.time t
      have h1 := X.same (t := t) (i := i) ops.size (Nat.le_refl _) hi (fun k o q1 q2 ho hd' => by have := e3 k o (hall k q2) ho hd'; omega)
      simp only [hfin] at h1
      have h2 := I'.tr.2 t
      have e1' : C.getD t undefA = (f i).1.getD t undefA := e1
      rw [e1', ← h1] at h2
      exact h2
  · -- the beginning
    have hno : ∀ k, (Array.replicate ops.size false).getD k false = false := fun k => by
      rw [Array.getD_eq_getD_getElem?, Array.getElem?_replicate]
      split <;> rfl
    refine ⟨fun j o e _ hj => (by rw [hno] at hj; cases hj), fun j hj => (by rw [hno] at hj; cases hj), htr, by simp only [hT0], fun t => ⟨0, Nat.zero_le _, by simp only [hT0], .inl rfl, fun k o hk => (by rw [hno] at hk; cases hk)⟩, Nat.zero_le _, fun e o _ _ => ?_, hHR0.drew _, ?_, fun _ _ e => e, fun i hi => absurd rfl hi, fun p hp => by omega, rfl, rfl, rfl, Nat.le_refl _, fun B hB hfr => ⟨rfl, fun i o r hi => ?_⟩, fun i _ _ _ => rfl, rfl⟩
    · rw [hno]
      constructor
      · intro hh; cases hh
      · intro hh; omega
    · simp only [hS0]
      exact ⟨fun i hi => by unfold hS; simp only [hS0]; rw [if_pos hi], ha.wf, ha.ref, ha.mem⟩
    · obtain ⟨fm, cs, hcs⟩ := hfr i o r hi
      exact ⟨fm, cs, by rw [hbeg i (by rw [hi]; simp)]; exact hcs⟩
  · exact Nat.le_trans List.countP_le_length (by simp)

theorem region_sound (ok : ProgOk P) (hc : CallOk P call) {id : Nat} {ops : Array Oper} {draw : Bool} (hd : draw = true → drawOkA P ops = true) {tmps' : List AV} {st' : St} (e : regionA P call ops draw tmps st = some (tmps', st'))
    (hr : HR ρ h w) (ha : Agree st h) (htr : TR ρ tmps a.tmps) (hf : Fresh ρ h st st') {Q : Exit → Act → World → Prop}
    (hk : ∀ ρ' w' a', Post ρ h w st ρ' (upd st' h) w' st' → TR ρ' tmps' a'.tmps → a'.defers = a.defers → Q .normal a' w') : (Code.region id ops draw).wp P Q a w := by
  unfold regionA at e
  have hto : ∀ (p : Nat) (o : Oper), ops[p]? = some o → ops.toList[p]? = some o := fun p o ho => by simpa using ho
  have hlen : ops.toList.length = ops.size := by simp
  split at e
  · rename_i hdr
    cases draw with
    | false =>
      refine wp_region_list ?_
      exact ops_sound ok hc ops.toList ρ h w st tmps a tmps' st' e hr ha htr hf hk
    | true =>
      have hq : quietA P ops (befA [] ops.toList) = true := by simpa [drawsA] using hdr
      obtain ⟨f, f0, f1, f3⟩ := ops_trace _ _ _ _ _ e
      rw [hlen] at f3
      obtain ⟨hpair, hedge⟩ := drawOk_spec (hd rfl)
      refine region_any ok hc f f0 f3.symm ⟨fun p o ho => f1 p o (hto p o ho), fun p o ho hR hg => ?_, hpair, hedge, fun L hL => bef_closed L hL⟩ hr ha htr hf hk
      obtain ⟨b, off, k, mk, h1⟩ := read_there hR hg (f1 p o (hto p o ho))
      refine ⟨b, off, k, mk, h1, fun e oe hoe hee hge q1 q2 => ?_⟩
      rcases quiet_spec hq ho hR hoe hee with h2 | h2
      · rw [h2] at q1; cases q1
      · rw [h2] at q2; cases q2
  · rename_i hdr
    obtain rfl : draw = true := by cases draw <;> simp [drawsA] at hdr ⊢
    split at e
    · rename_i last tr htrace
      split at e
      · rename_i hstable
        cases e
        obtain ⟨f, f0, f1, f2, f3⟩ := trace_spec _ _ _ _ _ htrace
        simp only [List.head?_cons, Option.some.injEq] at f3
        simp only [List.reverse_nil, List.nil_append] at f2
        rw [f2] at hstable
        rw [hlen] at f3 hstable
        obtain ⟨hpair, hedge⟩ := drawOk_spec (hd rfl)
        have hfget : ∀ p, p ≤ ops.size → ((List.range (ops.size + 1)).map f)[p]? = some (f p) := fun p hp => by simp [show p < ops.size + 1 by omega]
        refine region_any ok hc f f0 f3 ⟨fun p o ho => f1 p o (hto p o ho), fun p o ho hR hg => ?_, hpair, hedge, fun L hL => bef_closed L hL⟩ hr ha htr hf hk
        have hp : p < ops.size := (Array.getElem?_eq_some_iff.1 ho).1
        obtain ⟨b, off, k, mk, h1, h2⟩ := stable_spec _ 0 _ hstable p o (f p) (hto p o ho) (hfget p (by omega)) hR hg
        refine ⟨b, off, k, mk, h1, fun e oe hoe hee hge q1 q2 => ?_⟩
        have he : e < ops.size := (Array.getElem?_eq_some_iff.1 hoe).1
        rw [Nat.zero_add] at h2
        exact readOk_spec _ 0 _ h2 e oe (f e) (f (e + 1)) (hto e oe hoe) (hfget e (by omega)) (hfget (e + 1) (by omega)) hee hge (by rw [Nat.zero_add]; exact q1) (by rw [Nat.zero_add]; exact q2)
      · cases e
    · cases e
end

end Go.Den
