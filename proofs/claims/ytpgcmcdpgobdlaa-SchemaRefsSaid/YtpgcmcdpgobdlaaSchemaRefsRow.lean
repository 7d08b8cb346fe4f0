/- The law SchemaRefs returns true, whatever its arguments; no condition. Its arguments are taken case by case; in each the abstract machine comes to true, by the kernel's own reckoning. -/
import Derived.Test.YtpgcmcdpgobdlaaRows
import Derived.Test.YtpgcmcdpgobdlaaOk
import Derived.Test.YtpgcmcdpgobdlaaDenU
import Derived.WalkKit
import Derived.ProofKit
import Derived.OpenShut
import Derived.ChangeOld
import Derived.Below
import Derived.SizedLaws
namespace Go.Proofs.Ytpgcmcdpgobdlaa.schemaRefs
open Go.ChangeShapes Go.WideShapes Go.ChangeAt Go.RowKit Go.Den
set_option linter.unusedVariables false
theorem own : ownKnob Try.prog.godebug = none := by kernel_rfl
theorem beg0 : saysTrue Try.prog noPrim 1000 20 23 = true := by kernel_rfl
def pr := truePrim [23]
theorem pr_ok : PrimOk Try.prog pr := truePrim_ok ok fun g hg => by
  simp only [List.mem_cons, List.not_mem_nil, or_false] at hg
  rcases hg with rfl
  · exact ⟨noPrim, 1000, 20, noPrim_ok, beg0⟩
noncomputable def go (args : List AV) : Bool := saysArgs Try.prog pr 1000 20 7 args
theorem c0 : go [.fact .i64 (lessF 2 (1)), .fact .i64 (lessF 2 (1)), .bool false, .bool false] = true := by kernel_rfl
theorem c1 : go [.fact .i64 (lessF 2 (1)), .fact .i64 (lessF 2 (1)), .bool false, .bool true] = true := by kernel_rfl
theorem c2 : go [.fact .i64 (lessF 2 (1)), .fact .i64 (lessF 2 (1)), .bool true, .bool false] = true := by kernel_rfl
theorem c3 : go [.fact .i64 (lessF 2 (1)), .fact .i64 (lessF 2 (1)), .bool true, .bool true] = true := by kernel_rfl
theorem c4 : go [.fact .i64 (lessF 2 (1)), .fact .i64 (moreF 2 (1)), .bool false, .bool false] = true := by kernel_rfl
theorem c5 : go [.fact .i64 (lessF 2 (1)), .fact .i64 (moreF 2 (1)), .bool false, .bool true] = true := by kernel_rfl
theorem c6 : go [.fact .i64 (lessF 2 (1)), .fact .i64 (moreF 2 (1)), .bool true, .bool false] = true := by kernel_rfl
theorem c7 : go [.fact .i64 (lessF 2 (1)), .fact .i64 (moreF 2 (1)), .bool true, .bool true] = true := by kernel_rfl
theorem c8 : go [.fact .i64 (lessF 2 (1)), .int .i64 (1), .bool false, .bool false] = true := by kernel_rfl
theorem c9 : go [.fact .i64 (lessF 2 (1)), .int .i64 (1), .bool false, .bool true] = true := by kernel_rfl
theorem c10 : go [.fact .i64 (lessF 2 (1)), .int .i64 (1), .bool true, .bool false] = true := by kernel_rfl
theorem c11 : go [.fact .i64 (lessF 2 (1)), .int .i64 (1), .bool true, .bool true] = true := by kernel_rfl
theorem c12 : go [.fact .i64 (lessF 2 (1)), .int .i64 (2), .bool false, .bool false] = true := by kernel_rfl
theorem c13 : go [.fact .i64 (lessF 2 (1)), .int .i64 (2), .bool false, .bool true] = true := by kernel_rfl
theorem c14 : go [.fact .i64 (lessF 2 (1)), .int .i64 (2), .bool true, .bool false] = true := by kernel_rfl
theorem c15 : go [.fact .i64 (lessF 2 (1)), .int .i64 (2), .bool true, .bool true] = true := by kernel_rfl
theorem c16 : go [.fact .i64 (moreF 2 (1)), .fact .i64 (lessF 2 (1)), .bool false, .bool false] = true := by kernel_rfl
theorem c17 : go [.fact .i64 (moreF 2 (1)), .fact .i64 (lessF 2 (1)), .bool false, .bool true] = true := by kernel_rfl
theorem c18 : go [.fact .i64 (moreF 2 (1)), .fact .i64 (lessF 2 (1)), .bool true, .bool false] = true := by kernel_rfl
theorem c19 : go [.fact .i64 (moreF 2 (1)), .fact .i64 (lessF 2 (1)), .bool true, .bool true] = true := by kernel_rfl
theorem c20 : go [.fact .i64 (moreF 2 (1)), .fact .i64 (moreF 2 (1)), .bool false, .bool false] = true := by kernel_rfl
theorem c21 : go [.fact .i64 (moreF 2 (1)), .fact .i64 (moreF 2 (1)), .bool false, .bool true] = true := by kernel_rfl
theorem c22 : go [.fact .i64 (moreF 2 (1)), .fact .i64 (moreF 2 (1)), .bool true, .bool false] = true := by kernel_rfl
theorem c23 : go [.fact .i64 (moreF 2 (1)), .fact .i64 (moreF 2 (1)), .bool true, .bool true] = true := by kernel_rfl
theorem c24 : go [.fact .i64 (moreF 2 (1)), .int .i64 (1), .bool false, .bool false] = true := by kernel_rfl
theorem c25 : go [.fact .i64 (moreF 2 (1)), .int .i64 (1), .bool false, .bool true] = true := by kernel_rfl
theorem c26 : go [.fact .i64 (moreF 2 (1)), .int .i64 (1), .bool true, .bool false] = true := by kernel_rfl
theorem c27 : go [.fact .i64 (moreF 2 (1)), .int .i64 (1), .bool true, .bool true] = true := by kernel_rfl
theorem c28 : go [.fact .i64 (moreF 2 (1)), .int .i64 (2), .bool false, .bool false] = true := by kernel_rfl
theorem c29 : go [.fact .i64 (moreF 2 (1)), .int .i64 (2), .bool false, .bool true] = true := by kernel_rfl
theorem c30 : go [.fact .i64 (moreF 2 (1)), .int .i64 (2), .bool true, .bool false] = true := by kernel_rfl
theorem c31 : go [.fact .i64 (moreF 2 (1)), .int .i64 (2), .bool true, .bool true] = true := by kernel_rfl
theorem c32 : go [.int .i64 (1), .fact .i64 (lessF 2 (1)), .bool false, .bool false] = true := by kernel_rfl
theorem c33 : go [.int .i64 (1), .fact .i64 (lessF 2 (1)), .bool false, .bool true] = true := by kernel_rfl
theorem c34 : go [.int .i64 (1), .fact .i64 (lessF 2 (1)), .bool true, .bool false] = true := by kernel_rfl
theorem c35 : go [.int .i64 (1), .fact .i64 (lessF 2 (1)), .bool true, .bool true] = true := by kernel_rfl
theorem c36 : go [.int .i64 (1), .fact .i64 (moreF 2 (1)), .bool false, .bool false] = true := by kernel_rfl
theorem c37 : go [.int .i64 (1), .fact .i64 (moreF 2 (1)), .bool false, .bool true] = true := by kernel_rfl
theorem c38 : go [.int .i64 (1), .fact .i64 (moreF 2 (1)), .bool true, .bool false] = true := by kernel_rfl
theorem c39 : go [.int .i64 (1), .fact .i64 (moreF 2 (1)), .bool true, .bool true] = true := by kernel_rfl
theorem c40 : go [.int .i64 (1), .int .i64 (1), .bool false, .bool false] = true := by kernel_rfl
theorem c41 : go [.int .i64 (1), .int .i64 (1), .bool false, .bool true] = true := by kernel_rfl
theorem c42 : go [.int .i64 (1), .int .i64 (1), .bool true, .bool false] = true := by kernel_rfl
theorem c43 : go [.int .i64 (1), .int .i64 (1), .bool true, .bool true] = true := by kernel_rfl
theorem c44 : go [.int .i64 (1), .int .i64 (2), .bool false, .bool false] = true := by kernel_rfl
theorem c45 : go [.int .i64 (1), .int .i64 (2), .bool false, .bool true] = true := by kernel_rfl
theorem c46 : go [.int .i64 (1), .int .i64 (2), .bool true, .bool false] = true := by kernel_rfl
theorem c47 : go [.int .i64 (1), .int .i64 (2), .bool true, .bool true] = true := by kernel_rfl
theorem c48 : go [.int .i64 (2), .fact .i64 (lessF 2 (1)), .bool false, .bool false] = true := by kernel_rfl
theorem c49 : go [.int .i64 (2), .fact .i64 (lessF 2 (1)), .bool false, .bool true] = true := by kernel_rfl
theorem c50 : go [.int .i64 (2), .fact .i64 (lessF 2 (1)), .bool true, .bool false] = true := by kernel_rfl
theorem c51 : go [.int .i64 (2), .fact .i64 (lessF 2 (1)), .bool true, .bool true] = true := by kernel_rfl
theorem c52 : go [.int .i64 (2), .fact .i64 (moreF 2 (1)), .bool false, .bool false] = true := by kernel_rfl
theorem c53 : go [.int .i64 (2), .fact .i64 (moreF 2 (1)), .bool false, .bool true] = true := by kernel_rfl
theorem c54 : go [.int .i64 (2), .fact .i64 (moreF 2 (1)), .bool true, .bool false] = true := by kernel_rfl
theorem c55 : go [.int .i64 (2), .fact .i64 (moreF 2 (1)), .bool true, .bool true] = true := by kernel_rfl
theorem c56 : go [.int .i64 (2), .int .i64 (1), .bool false, .bool false] = true := by kernel_rfl
theorem c57 : go [.int .i64 (2), .int .i64 (1), .bool false, .bool true] = true := by kernel_rfl
theorem c58 : go [.int .i64 (2), .int .i64 (1), .bool true, .bool false] = true := by kernel_rfl
theorem c59 : go [.int .i64 (2), .int .i64 (1), .bool true, .bool true] = true := by kernel_rfl
theorem c60 : go [.int .i64 (2), .int .i64 (2), .bool false, .bool false] = true := by kernel_rfl
theorem c61 : go [.int .i64 (2), .int .i64 (2), .bool false, .bool true] = true := by kernel_rfl
theorem c62 : go [.int .i64 (2), .int .i64 (2), .bool true, .bool false] = true := by kernel_rfl
theorem c63 : go [.int .i64 (2), .int .i64 (2), .bool true, .bool true] = true := by kernel_rfl
theorem all : allA [[.fact .i64 (lessF 2 (1)), .fact .i64 (moreF 2 (1)), .int .i64 (1), .int .i64 (2)], [.fact .i64 (lessF 2 (1)), .fact .i64 (moreF 2 (1)), .int .i64 (1), .int .i64 (2)], [.bool false, .bool true], [.bool false, .bool true]] go = true := (allA_cons (allA_cons (allA_cons (allA_cons (allA_leaf c0) (allA_cons (allA_leaf c1) allA_nil)) (allA_cons (allA_cons (allA_leaf c2) (allA_cons (allA_leaf c3) allA_nil)) allA_nil)) (allA_cons (allA_cons (allA_cons (allA_leaf c4) (allA_cons (allA_leaf c5) allA_nil)) (allA_cons (allA_cons (allA_leaf c6) (allA_cons (allA_leaf c7) allA_nil)) allA_nil)) (allA_cons (allA_cons (allA_cons (allA_leaf c8) (allA_cons (allA_leaf c9) allA_nil)) (allA_cons (allA_cons (allA_leaf c10) (allA_cons (allA_leaf c11) allA_nil)) allA_nil)) (allA_cons (allA_cons (allA_cons (allA_leaf c12) (allA_cons (allA_leaf c13) allA_nil)) (allA_cons (allA_cons (allA_leaf c14) (allA_cons (allA_leaf c15) allA_nil)) allA_nil)) allA_nil)))) (allA_cons (allA_cons (allA_cons (allA_cons (allA_leaf c16) (allA_cons (allA_leaf c17) allA_nil)) (allA_cons (allA_cons (allA_leaf c18) (allA_cons (allA_leaf c19) allA_nil)) allA_nil)) (allA_cons (allA_cons (allA_cons (allA_leaf c20) (allA_cons (allA_leaf c21) allA_nil)) (allA_cons (allA_cons (allA_leaf c22) (allA_cons (allA_leaf c23) allA_nil)) allA_nil)) (allA_cons (allA_cons (allA_cons (allA_leaf c24) (allA_cons (allA_leaf c25) allA_nil)) (allA_cons (allA_cons (allA_leaf c26) (allA_cons (allA_leaf c27) allA_nil)) allA_nil)) (allA_cons (allA_cons (allA_cons (allA_leaf c28) (allA_cons (allA_leaf c29) allA_nil)) (allA_cons (allA_cons (allA_leaf c30) (allA_cons (allA_leaf c31) allA_nil)) allA_nil)) allA_nil)))) (allA_cons (allA_cons (allA_cons (allA_cons (allA_leaf c32) (allA_cons (allA_leaf c33) allA_nil)) (allA_cons (allA_cons (allA_leaf c34) (allA_cons (allA_leaf c35) allA_nil)) allA_nil)) (allA_cons (allA_cons (allA_cons (allA_leaf c36) (allA_cons (allA_leaf c37) allA_nil)) (allA_cons (allA_cons (allA_leaf c38) (allA_cons (allA_leaf c39) allA_nil)) allA_nil)) (allA_cons (allA_cons (allA_cons (allA_leaf c40) (allA_cons (allA_leaf c41) allA_nil)) (allA_cons (allA_cons (allA_leaf c42) (allA_cons (allA_leaf c43) allA_nil)) allA_nil)) (allA_cons (allA_cons (allA_cons (allA_leaf c44) (allA_cons (allA_leaf c45) allA_nil)) (allA_cons (allA_cons (allA_leaf c46) (allA_cons (allA_leaf c47) allA_nil)) allA_nil)) allA_nil)))) (allA_cons (allA_cons (allA_cons (allA_cons (allA_leaf c48) (allA_cons (allA_leaf c49) allA_nil)) (allA_cons (allA_cons (allA_leaf c50) (allA_cons (allA_leaf c51) allA_nil)) allA_nil)) (allA_cons (allA_cons (allA_cons (allA_leaf c52) (allA_cons (allA_leaf c53) allA_nil)) (allA_cons (allA_cons (allA_leaf c54) (allA_cons (allA_leaf c55) allA_nil)) allA_nil)) (allA_cons (allA_cons (allA_cons (allA_leaf c56) (allA_cons (allA_leaf c57) allA_nil)) (allA_cons (allA_cons (allA_leaf c58) (allA_cons (allA_leaf c59) allA_nil)) allA_nil)) (allA_cons (allA_cons (allA_cons (allA_leaf c60) (allA_cons (allA_leaf c61) allA_nil)) (allA_cons (allA_cons (allA_leaf c62) (allA_cons (allA_leaf c63) allA_nil)) allA_nil)) allA_nil)))) allA_nil))))
theorem says (a0 : Int) (a1 : Int) (a2 : Bool) (a3 : Bool) (w : World) : Calls Try.prog 7 #[.int .i64 a0, .int .i64 a1, .bool a2, .bool a3] w fun e w' => e = .returned (.bool true) ∧ Below w.heap.size w w' :=
  says_cases ok pr_ok all (vargs := [.int .i64 a0, .int .i64 a1, .bool a2, .bool a3]) ⟨_, _, rfl, rangeA_cov .i64 (1) 2 _, ⟨_, _, rfl, rangeA_cov .i64 (1) 2 _, ⟨_, _, rfl, bools_cov _, ⟨_, _, rfl, bools_cov _, rfl⟩⟩⟩⟩ w
set_option maxRecDepth 100000 in
theorem lifted (os : Os) (started : os.Started) (H : Type) (enc : TypeId × Value → H) :
    ReturnsInHanded {} Try.checked os 7 .any (Rows.schemaRefsSpec.pre6 enc Try.prog Try.f7 Rows.schemaRefsRow.domain false) (Rows.schemaRefsSpec.post enc Try.prog Try.f7 false true false false) := by
  refine returnsInHanded_of_change_sized (C := Try.checked) own started (by kernel_rfl) Try.func7
    (ChangeSpec.witness6 (enc := enc) (C := Try.checked) false ⟨#[], #[.int .i64 0, .int .i64 0, .bool false, .bool false], []⟩ 8 (by kernel_rfl) (by kernel_rfl) (by kernel_rfl) (by kernel_rfl)) ?_
  intro W base args ds gs before hval0 hW hcnd hsz0 _
  have hval : ∀ (j : Nat) t v, Try.f7.params[j]? = some t → args[j]? = some v → Value.okWide Try.prog W .any base t v := hval0
  have hW' := hW
  obtain ⟨p, q, hA0, hV, rfl, hfz, hnd⟩ := hW
  have hA : DataW.TrodAll enc Try.prog W 0 (fun _ => true) true Try.f7.params.toList args.toList ds p := hA0
  rw [Try.params7] at hA hval
  obtain ⟨v0, vs0, d0, ds0, p0, q0, hargs, rfl, rfl, h0, r0⟩ := trodAll_cons hA
  obtain ⟨v1, vs1, d1, ds1, p1, q1, rfl, rfl, rfl, h1, r1⟩ := trodAll_cons r0
  obtain ⟨v2, vs2, d2, ds2, p2, q2, rfl, rfl, rfl, h2, r2⟩ := trodAll_cons r1
  obtain ⟨v3, vs3, d3, ds3, p3, q3, rfl, rfl, rfl, h3, r3⟩ := trodAll_cons r2
  obtain ⟨rfl, rfl, rfl⟩ := trodAll_nil r3
  obtain rfl : args = #[v0, v1, v2, v3] := by cases args; simp_all
  obtain ⟨rfl, rfl⟩ := trodVars_none hV
  obtain ⟨a0, rfl, rfl, rfl, w0⟩ := open_int Try.underlying3 (hval 0 3 v0 rfl rfl) h0
  obtain ⟨a1, rfl, rfl, rfl, w1⟩ := open_int Try.underlying3 (hval 1 3 v1 rfl rfl) h1
  obtain ⟨a2, rfl, rfl, rfl⟩ := open_bool Try.underlying4 (hval 2 4 v2 rfl rfl) h2
  obtain ⟨a3, rfl, rfl, rfl⟩ := open_bool Try.underlying4 (hval 3 4 v3 rfl rfl) h3
  clear hA0 hval0 hsz0
  refine (says a0 a1 a2 a3 W).mono fun e W' ⟨he, bel⟩ => ?_
  subst he
  exact ⟨_, rfl, _, _, _, [], _, [], hW', trodAll_mk1 (shut_bool Try.underlying4 _), (trodAll_cons_mk (shut_int Try.underlying3 w0) (trodAll_cons_mk (shut_int Try.underlying3 w1) (trodAll_cons_mk (shut_bool Try.underlying4 _) (trodAll_cons_mk (shut_bool Try.underlying4 _) trodAll_mk0)))), rfl, bel.frame _, fun h => by cases h⟩
theorem over : Rows.schemaRefsRow.holds Try.pinned (OpenSpec.ofChange Rows.schemaRefsSpec) :=
  OpenClaim.holds_of_wide 7 Try.f7 rfl rfl rfl rfl rfl rfl rfl ⟨rfl, rfl, rfl, rfl, rfl⟩ rfl rfl rfl rfl rfl (by kernel_rfl) Try.func7 (by kernel_rfl)
    (of_decide_eq_true (by kernel_rfl)) (by unfold Func.isWrapper; first | (rw [if_pos (by decide +kernel)]; kernel_rfl) | (rw [if_neg (by decide +kernel)]; exact ⟨rfl, rfl⟩))
    (fun os started H enc _ => lifted os started H enc)
theorem proved : Rows.SchemaRefsSaid := over
end Go.Proofs.Ytpgcmcdpgobdlaa.schemaRefs
namespace Go.Proofs.Ytpgcmcdpgobdlaa
theorem schemaRefs_holds : Rows.SchemaRefsSaid := schemaRefs.proved
end Go.Proofs.Ytpgcmcdpgobdlaa
