/- Functions whose answer is what their text comes to: told as a tree, once for all. -/
import Derived.Test.YtekedhfmdpbplaaSyX
set_option linter.unusedSimpArgs false
set_option linter.unusedVariables false
namespace Go.Sy
open Go
/-- What comes behind, at each leaf. -/
def RT.bind (k : AV → St → List Nat → RT) : RT → RT
  | .fail => .fail
  | .ok gd v s tch => .br gd (k v s tch) .fail
  | .br b x y => .br b (x.bind k) (y.bind k)
theorem RT.bind_K {k : AV → St → List Nat → RT} {φ : AV → St → List Nat → Prop} : ∀ (r : RT), (r.bind k).K φ = r.K fun v s t => (k v s t).K φ
  | .fail => rfl
  | .ok gd v s tch => by cases gd <;> rfl
  | .br b x y => by cases b <;> simp only [RT.bind, RT.K, RT.bind_K x, RT.bind_K y]
noncomputable def opsT (P : Program) (call : CallS) (ops : Array Oper) : Nat → List Oper → List AV → St → List Note → (List AV → St → List Note → RT) → RT
  | _, [], tmps, s, acc, k => k tmps s acc
  | i, o :: os, tmps, s, acc, k => match guardS ops tmps o with
    | none => .fail
    | some .always => (opS P call tmps s o.op).bind fun v s' tch => fAV1 v fun v => fEff P o.op s' fun s' => opsT P call ops (i + 1) os (putA tmps o.dst v) s' (⟨i, rdOf P tmps o.op, tch⟩ :: acc) k
    | some .never => opsT P call ops (i + 1) os (putA tmps o.dst undefA) s acc k
    | some (.on d want b) => .br b (match want with
        | true => (opS P call (tmps.set d (.bool true)) s o.op).bind fun v s' tch => fAV1 v fun v => fEff P o.op s' fun s' => opsT P call ops (i + 1) os (putA (tmps.set d (.bool true)) o.dst v) s' (⟨i, rdOf P (tmps.set d (.bool true)) o.op, tch⟩ :: acc) k
        | false => opsT P call ops (i + 1) os (putA (tmps.set d (.bool true)) o.dst undefA) s acc k)
      (match want with
        | true => opsT P call ops (i + 1) os (putA (tmps.set d (.bool false)) o.dst undefA) s acc k
        | false => (opS P call (tmps.set d (.bool false)) s o.op).bind fun v s' tch => fAV1 v fun v => fEff P o.op s' fun s' => opsT P call ops (i + 1) os (putA (tmps.set d (.bool false)) o.dst v) s' (⟨i, rdOf P (tmps.set d (.bool false)) o.op, tch⟩ :: acc) k)
theorem opsT_K {P : Program} {call : CallS} {ops : Array Oper} {φ : AV → St → List Nat → Prop} {k : List AV → St → List Note → RT} : ∀ (os : List Oper) (i : Nat) (tmps : List AV) (s : St) (acc : List Note),
    (opsT P call ops i os tmps s acc k).K φ = opsK P call ops i os tmps s acc fun t s' a => (k t s' a).K φ
  | [], i, tmps, s, acc => rfl
  | o :: os, i, tmps, s, acc => by
    simp only [opsT, opsK]
    cases guardS ops tmps o with
    | none => rfl
    | some q => cases q with
      | always => simp only [RT.bind_K, fAV1_eq, fEff_eq]; congr 1; funext v s' tch; exact opsT_K os _ _ _ _
      | never => exact opsT_K os _ _ _ _
      | on d want b => cases b <;> cases want <;> simp only [RT.K, RT.bind_K, fAV1_eq, fEff_eq, opsT_K os]
noncomputable def regionT (P : Program) (call : CallS) (ops : Array Oper) (draw : Bool) (tmps : List AV) (s : St) (k : List AV → St → RT) : RT :=
  opsT P call ops 0 ops.toList tmps s [] fun t s' acc => match drawn ops draw acc with
    | true => fTm t fun t => fSt s' fun s' => k t s'
    | false => .fail
abbrev KT := Ex → List AV → St → RT
def loopT (f : List AV → St → KT → RT) : Nat → List AV → St → KT → RT
  | 0, _, _, _ => .fail
  | n + 1, t, s, k => f t s fun e t' s' => match e with
    | .normal => loopT f n t' s' k
    | e => k e t' s'
noncomputable def codeT (P : Program) (call : CallS) (L : Nat) : Code → List AV → St → KT → RT
  | .skip, t, s, k => k .normal t s
  | .label _, t, s, k => k .normal t s
  | .region _ ops draw, t, s, k => regionT P call ops draw t s (k .normal)
  | .seq a b, t, s, k => codeT P call L a t s fun e t' s' => match e with
    | .normal => codeT P call L b t' s' k
    | e => k e t' s'
  | .cond c a b, t, s, k => match evA t c with
    | some (.bool x) => .br x (codeT P call L a t s k) (codeT P call L b t s k)
    | _ => .fail
  | .block id c, t, s, k => codeT P call L c t s fun e t' s' => match e with
      | .exit j => match Nat.beq j id with
        | true => k .normal t' s'
        | false => k (.exit j) t' s'
      | e => k e t' s'
  | .loop c, t, s, k => loopT (codeT P call L c) L t s k
  | .exit id, t, s, k => k (.exit id) t s
  | .ret, t, s, k => k .ret t s
  | _, _, _, _ => .fail
noncomputable def bodyT (P : Program) (pr : FuncId → Option Spec) (L : Nat) (g : FuncId) (args : List AV) (s : St) : RT :=
  match P.funcs[g]? with
  | none => .fail
  | some fn => match fn.body with
    | none => .fail
    | some c => codeT P (callS pr) L c (args ++ padA (fn.ntmps - args.length)) s fun e t s' => match e with
      | .exit _ => .fail
      | _ => match resultS P s' t fn.results.toList with
        | some v => match finishS s.length [] v s' with
          | some (g, v', s'') => fAV2 v' fun v' => fSt s'' fun s'' => .ok g v' s'' []
          | none => .fail
        | none => .fail
theorem regionT_K {P : Program} {call : CallS} {ops : Array Oper} {draw : Bool} {tmps : List AV} {s : St} {k : List AV → St → RT} {φ : AV → St → List Nat → Prop} :
    (regionT P call ops draw tmps s k).K φ = regionK P call ops draw tmps s fun t s' => (k t s').K φ := by
  unfold regionT regionK
  rw [opsT_K]
  congr 1
  funext t s' a
  simp only [fTm_eq, fSt_eq]
  cases drawn ops draw a <;> rfl
theorem codeT_K {P : Program} {call : CallS} {L : Nat} {φ : AV → St → List Nat → Prop} : ∀ (c : Code) (t : List AV) (s : St) (k : KT), (codeT P call L c t s k).K φ = codeK P call noL L c t s fun e t' s' => (k e t' s').K φ
  | .skip, t, s, k => rfl
  | .label _, t, s, k => rfl
  | .region _ ops draw, t, s, k => by simp only [codeT, codeK, regionT_K, noL]
  | .seq a b, t, s, k => by
    simp only [codeT, codeK]
    rw [codeT_K a]
    congr 1
    funext e t' s'
    cases e with
    | normal => exact codeT_K b _ _ _
    | _ => rfl
  | .cond c a b, t, s, k => by
    simp only [codeT, codeK]
    cases evA t c with
    | none => rfl
    | some v => cases v with
      | bool x =>
        cases x
        · exact codeT_K b _ _ _
        · exact codeT_K a _ _ _
      | _ => rfl
  | .block id c, t, s, k => by
    simp only [codeT, codeK, noL]
    rw [codeT_K c]
    congr 1
    funext e t' s'
    cases e with
    | exit j => simp only; cases Nat.beq j id <;> rfl
    | _ => rfl
  | .loop c, t, s, k => by
    simp only [codeT, codeK]
    have go : ∀ n t s, (loopT (codeT P call L c) n t s k).K φ = loopK (codeK P call noL L c) n t s fun e t' s' => (k e t' s').K φ := by
      intro n
      induction n with
      | zero => intro t s; rfl
      | succ n ih =>
        intro t s
        simp only [loopT, loopK]
        rw [codeT_K c]
        congr 1
        funext e t' s'
        cases e with
        | normal => exact ih t' s'
        | _ => rfl
    exact go L t s
  | .exit id, t, s, k => rfl
  | .ret, t, s, k => rfl
  | .scope _, t, s, k => rfl
  | .rangeFunc _ _ _ _, t, s, k => rfl
  | .refuse _, t, s, k => rfl
  | .goto _, t, s, k => rfl
theorem bodyT_K {P : Program} {pr : FuncId → Option Spec} {L : Nat} {g : FuncId} {args : List AV} {s : St} {k : AV → St → Prop} : (bodyT P pr L g args s).K (fun v s' _ => k v s') = bodyK P pr noL L g [] args s k := by
  unfold bodyT bodyK
  simp only [fAV2_eq, fSt_eq]
  cases P.funcs[g]? with
  | none => rfl
  | some fn =>
    simp only
    cases fn.body with
    | none => rfl
    | some c =>
      simp only
      rw [codeT_K]
      congr 1
      funext e t s'
      have key : ((match resultS P s' t fn.results.toList with
        | some v => match finishS s.length [] v s' with
          | some (g, v', s'') => RT.ok g v' s'' []
          | none => .fail
        | none => .fail).K (fun v s' _ => k v s')) = (match resultS P s' t fn.results.toList with
        | some v => match finishS s.length [] v s' with
          | some (g, v', s'') => match g with
            | true => k v' s''
            | false => False
          | none => False
        | none => False) := by
        cases resultS P s' t fn.results.toList with
        | none => rfl
        | some v =>
          simp only
          cases finishS s.length [] v s' with
          | none => rfl
          | some x => obtain ⟨g, v', s''⟩ := x; cases g <;> rfl
      cases e with
      | exit j => rfl
      | normal => exact key
      | ret => exact key
theorem K_run {v : AV} {s : St} {tch : List Nat} : ∀ {t : RT}, t.run = some (v, s, tch) → t.K (fun v1 s1 _ => v1 = v ∧ s1 = s)
  | .fail, h => by cases h
  | .ok g v' s' _, h => by
    cases g
    · cases h
    · cases h; exact ⟨rfl, rfl⟩
  | .br b x y, h => by
    cases b
    · exact K_run (t := y) h
    · exact K_run (t := x) h
theorem if_run {g : Bool} {t : RT} {r : AV × St × List Nat} (h : (RT.br g t .fail).run = some r) : g = true ∧ t.run = some r := by
  cases g
  · cases h
  · exact ⟨rfl, h⟩
def okL (v : AV) (s : St) : RT := .ok true v s []
/-- A function whose answer is what its text comes to. -/
noncomputable def selfF (P : Program) (pr : FuncId → Option Spec) (L : Nat) (g : FuncId) : Spec := ⟨[], fun args s => bodyT P pr L g args s⟩
theorem self_ok {P : Program} (ok : ProgOk P) {pr : FuncId → Option Spec} (hpr : PrOk P pr) {L : Nat} {g : FuncId} (hd : distinctOk P g = true) : SpecOk P g (selfF P pr L g).f :=
  specOk_comes fun args s v s' tch e => comes_of ok hpr (L := L) (ms := []) hd loops_none (by rw [← bodyT_K]; exact K_run e)
/-- Functions by number, their answers what their texts come to, each by those ahead of it. -/
noncomputable def selfs (P : Program) (L : Nat) : List FuncId → (FuncId → Option Spec) → FuncId → Option Spec
  | [], pr => pr
  | g :: gs, pr => selfs P L gs (addP g (selfF P pr L g) pr)
def distincts (P : Program) : List FuncId → Bool
  | [] => true
  | g :: gs => distinctOk P g && distincts P gs
theorem selfs_ok {P : Program} (ok : ProgOk P) {L : Nat} : ∀ (gs : List FuncId) (pr : FuncId → Option Spec), PrOk P pr → distincts P gs = true → PrOk P (selfs P L gs pr)
  | [], pr, h, _ => h
  | g :: gs, pr, h, hd => by
    simp only [distincts, Bool.and_eq_true] at hd
    exact selfs_ok ok gs _ (prOk_add (self_ok ok h hd.1) h) hd.2
/-- Of a function without blocks of its own: all its answers put into one. -/
def RT.safe (c : AV → Bool) : RT → Bool
  | .fail => false
  | .ok g v s _ => match s with
    | [] => match g with
      | true => c v
      | false => false
    | _ :: _ => false
  | .br b x y => match b with
    | true => x.safe c
    | false => y.safe c
def isB : AV → Bool | .bool _ => true | _ => false
def isI : AV → Bool | .int .i64 _ => true | _ => false
def RT.bval : RT → Bool
  | .fail => false
  | .ok _ v _ _ => match v with
    | .bool b => b
    | _ => false
  | .br b x y => match b with
    | true => x.bval
    | false => y.bval
def RT.ival : RT → Int
  | .fail => 0
  | .ok _ v _ _ => match v with
    | .int _ n => n
    | _ => 0
  | .br b x y => match b with
    | true => x.ival
    | false => y.ival
theorem RT.safe_run {c : AV → Bool} : ∀ {r : RT}, r.safe c = true → ∃ v tch, r.run = some (v, [], tch) ∧ c v = true ∧ (∀ b, v = .bool b → r.bval = b) ∧ ∀ k n, v = .int k n → r.ival = n
  | .fail, h => by cases h
  | .ok g v s t, h => by
    cases s with
    | nil =>
      cases g
      · cases h
      · exact ⟨v, t, rfl, h, fun b e => by subst e; rfl, fun k n e => by subst e; rfl⟩
    | cons x s => cases h
  | .br b x y, h => by
    cases b
    · exact RT.safe_run (r := y) h
    · exact RT.safe_run (r := x) h
/-- A function that answers a truth, and touches nothing. -/
def boolF (F : Spec) : Spec := ⟨[], fun args s => match s with
  | [] => .ok ((F.f args []).safe isB) (.bool (F.f args []).bval) [] []
  | _ :: _ => .fail⟩
def intF (F : Spec) : Spec := ⟨[], fun args s => match s with
  | [] => .ok ((F.f args []).safe isI) (.int .i64 (F.f args []).ival) [] []
  | _ :: _ => .fail⟩
theorem boolF_run {F : Spec} {args : List AV} {s s' : St} {v : AV} {tch : List Nat} (e : ((boolF F).f args s).run = some (v, s', tch)) : ∃ t, (F.f args s).run = some (v, s', t) := by
  simp only [boolF] at e
  split at e
  · obtain ⟨h, rfl, rfl, rfl⟩ := run_ok e
    obtain ⟨v, t, h1, h2, h3, _⟩ := RT.safe_run h
    cases v with
    | bool b => rw [h3 b rfl]; exact ⟨t, h1⟩
    | _ => cases h2
  · cases e
theorem intF_run {F : Spec} {args : List AV} {s s' : St} {v : AV} {tch : List Nat} (e : ((intF F).f args s).run = some (v, s', tch)) : ∃ t, (F.f args s).run = some (v, s', t) := by
  simp only [intF] at e
  split at e
  · obtain ⟨h, rfl, rfl, rfl⟩ := run_ok e
    obtain ⟨v, t, h1, h2, _, h3⟩ := RT.safe_run h
    cases v with
    | int k n =>
      rw [h3 k n rfl]
      cases k <;> first | cases h2; done | exact ⟨t, h1⟩
    | _ => cases h2
  · cases e
theorem boolF_ok {P : Program} {g : FuncId} {F : Spec} (h : SpecOk P g F.f) : SpecOk P g (boolF F).f where
  len := fun args s v s' tch e => by obtain ⟨t, e⟩ := boolF_run e; exact h.len _ _ _ _ _ e
  calls := fun args s v s' tch e => by obtain ⟨t, e⟩ := boolF_run e; exact h.calls _ _ _ _ _ e
theorem intF_ok {P : Program} {g : FuncId} {F : Spec} (h : SpecOk P g F.f) : SpecOk P g (intF F).f where
  len := fun args s v s' tch e => by obtain ⟨t, e⟩ := intF_run e; exact h.len _ _ _ _ _ e
  calls := fun args s v s' tch e => by obtain ⟨t, e⟩ := intF_run e; exact h.calls _ _ _ _ _ e
end Go.Sy
