/- The law PathDeep returns true, whatever its arguments; no condition. Its arguments are taken case by case; in each the abstract machine comes to true, by the kernel's own reckoning. -/
import Derived.Test.YtekedhfmdpbplaaPathDeepC1
import Derived.Test.YtekedhfmdpbplaaPathDeepC2
import Derived.Test.YtekedhfmdpbplaaPathDeepC3
import Derived.Test.YtekedhfmdpbplaaPathDeepC4
import Derived.Test.YtekedhfmdpbplaaPathDeepC5
import Derived.Test.YtekedhfmdpbplaaPathDeepC6
import Derived.Test.YtekedhfmdpbplaaPathDeepC7
import Derived.Test.YtekedhfmdpbplaaPathDeepC8
import Derived.Test.YtekedhfmdpbplaaPathDeepC9
import Derived.Test.YtekedhfmdpbplaaPathDeepC10
import Derived.Test.YtekedhfmdpbplaaPathDeepC11
import Derived.Test.YtekedhfmdpbplaaPathDeepC12
import Derived.Test.YtekedhfmdpbplaaPathDeepC13
import Derived.Test.YtekedhfmdpbplaaPathDeepC14
import Derived.Test.YtekedhfmdpbplaaPathDeepC15
import Derived.Test.YtekedhfmdpbplaaPathDeepC16
namespace Go.Proofs.Ytekedhfmdpbplaa.pathDeep
open Go.ChangeShapes Go.WideShapes Go.ChangeAt Go.RowKit Go.Den
set_option linter.unusedVariables false
theorem all : allA [[.fact .i64 (lessF 7 (1)), .fact .i64 (moreF 7 (1)), .int .i64 (1), .int .i64 (2), .int .i64 (3), .int .i64 (4), .int .i64 (5), .int .i64 (6), .int .i64 (7)], [.fact .i64 (lessF 8 (1)), .fact .i64 (moreF 8 (1)), .int .i64 (1), .int .i64 (2), .int .i64 (3), .int .i64 (4), .int .i64 (5), .int .i64 (6), .int .i64 (7), .int .i64 (8)]] go = true := (allA_cons (allA_cons (allA_leaf c0) (allA_cons (allA_leaf c1) (allA_cons (allA_leaf c2) (allA_cons (allA_leaf c3) (allA_cons (allA_leaf c4) (allA_cons (allA_leaf c5) (allA_cons (allA_leaf c6) (allA_cons (allA_leaf c7) (allA_cons (allA_leaf c8) (allA_cons (allA_leaf c9) allA_nil)))))))))) (allA_cons (allA_cons (allA_leaf c10) (allA_cons (allA_leaf c11) (allA_cons (allA_leaf c12) (allA_cons (allA_leaf c13) (allA_cons (allA_leaf c14) (allA_cons (allA_leaf c15) (allA_cons (allA_leaf c16) (allA_cons (allA_leaf c17) (allA_cons (allA_leaf c18) (allA_cons (allA_leaf c19) allA_nil)))))))))) (allA_cons (allA_cons (allA_leaf c20) (allA_cons (allA_leaf c21) (allA_cons (allA_leaf c22) (allA_cons (allA_leaf c23) (allA_cons (allA_leaf c24) (allA_cons (allA_leaf c25) (allA_cons (allA_leaf c26) (allA_cons (allA_leaf c27) (allA_cons (allA_leaf c28) (allA_cons (allA_leaf c29) allA_nil)))))))))) (allA_cons (allA_cons (allA_leaf c30) (allA_cons (allA_leaf c31) (allA_cons (allA_leaf c32) (allA_cons (allA_leaf c33) (allA_cons (allA_leaf c34) (allA_cons (allA_leaf c35) (allA_cons (allA_leaf c36) (allA_cons (allA_leaf c37) (allA_cons (allA_leaf c38) (allA_cons (allA_leaf c39) allA_nil)))))))))) (allA_cons (allA_cons (allA_leaf c40) (allA_cons (allA_leaf c41) (allA_cons (allA_leaf c42) (allA_cons (allA_leaf c43) (allA_cons (allA_leaf c44) (allA_cons (allA_leaf c45) (allA_cons (allA_leaf c46) (allA_cons (allA_leaf c47) (allA_cons (allA_leaf c48) (allA_cons (allA_leaf c49) allA_nil)))))))))) (allA_cons (allA_cons (allA_leaf c50) (allA_cons (allA_leaf c51) (allA_cons (allA_leaf c52) (allA_cons (allA_leaf c53) (allA_cons (allA_leaf c54) (allA_cons (allA_leaf c55) (allA_cons (allA_leaf c56) (allA_cons (allA_leaf c57) (allA_cons (allA_leaf c58) (allA_cons (allA_leaf c59) allA_nil)))))))))) (allA_cons (allA_cons (allA_leaf c60) (allA_cons (allA_leaf c61) (allA_cons (allA_leaf c62) (allA_cons (allA_leaf c63) (allA_cons (allA_leaf c64) (allA_cons (allA_leaf c65) (allA_cons (allA_leaf c66) (allA_cons (allA_leaf c67) (allA_cons (allA_leaf c68) (allA_cons (allA_leaf c69) allA_nil)))))))))) (allA_cons (allA_cons (allA_leaf c70) (allA_cons (allA_leaf c71) (allA_cons (allA_leaf c72) (allA_cons (allA_leaf c73) (allA_cons (allA_leaf c74) (allA_cons (allA_leaf c75) (allA_cons (allA_leaf c76) (allA_cons (allA_leaf c77) (allA_cons (allA_leaf c78) (allA_cons (allA_leaf c79) allA_nil)))))))))) (allA_cons (allA_cons (allA_leaf c80) (allA_cons (allA_leaf c81) (allA_cons (allA_leaf c82) (allA_cons (allA_leaf c83) (allA_cons (allA_leaf c84) (allA_cons (allA_leaf c85) (allA_cons (allA_leaf c86) (allA_cons (allA_leaf c87) (allA_cons (allA_leaf c88) (allA_cons (allA_leaf c89) allA_nil)))))))))) allA_nil)))))))))
set_option maxRecDepth 100000 in
theorem says (a0 : Int) (a1 : Int) (w : World) : Calls Try.prog 7 #[.int .i64 a0, .int .i64 a1] w fun e w' => e = .returned (.bool true) ∧ Below w.heap.size w w' :=
  saysF_cases (pr := pr) (L := 1000) (n := 30) (g := 7) ok quiet pr_ok all (vargs := [.int .i64 a0, .int .i64 a1]) ⟨_, _, rfl, rangeA_cov .i64 (1) 7 _, ⟨_, _, rfl, rangeA_cov .i64 (1) 8 _, rfl⟩⟩ w
set_option maxRecDepth 100000 in
theorem lifted (os : Os) (started : os.Started) (H : Type) (enc : TypeId × Value → H) :
    ReturnsInHanded {} Try.checked os 7 .any (Rows.pathDeepSpec.pre6 enc Try.prog Try.f7 Rows.pathDeepRow.domain false) (Rows.pathDeepSpec.post enc Try.prog Try.f7 false true false false) := by
  refine returnsInHanded_of_change_sized (C := Try.checked) own started (by kernel_rfl) Try.func7
    (ChangeSpec.witness6 (enc := enc) (C := Try.checked) false ⟨#[], #[.int .i64 0, .int .i64 0], []⟩ 8 (by kernel_rfl) (by kernel_rfl) (by kernel_rfl) (by kernel_rfl)) ?_
  intro W base args ds gs before hval0 hW hcnd hsz0 _
  have hval : ∀ (j : Nat) t v, Try.f7.params[j]? = some t → args[j]? = some v → Value.okWide Try.prog W .any base t v := hval0
  have hW' := hW
  obtain ⟨p, q, hA0, hV, rfl, hfz, hnd⟩ := hW
  have hA : DataW.TrodAll enc Try.prog W 0 (fun _ => true) true Try.f7.params.toList args.toList ds p := hA0
  rw [Try.params7] at hA hval
  obtain ⟨v0, vs0, d0, ds0, p0, q0, hargs, rfl, rfl, h0, r0⟩ := trodAll_cons hA
  obtain ⟨v1, vs1, d1, ds1, p1, q1, rfl, rfl, rfl, h1, r1⟩ := trodAll_cons r0
  obtain ⟨rfl, rfl, rfl⟩ := trodAll_nil r1
  obtain rfl : args = #[v0, v1] := by cases args; simp_all
  obtain ⟨rfl, rfl⟩ := trodVars_none hV
  obtain ⟨a0, rfl, rfl, rfl, w0⟩ := open_int Try.underlying3 (hval 0 3 v0 rfl rfl) h0
  obtain ⟨a1, rfl, rfl, rfl, w1⟩ := open_int Try.underlying3 (hval 1 3 v1 rfl rfl) h1
  clear hA0 hval0 hsz0
  refine (says a0 a1 W).mono fun e W' ⟨he, bel⟩ => ?_
  subst he
  exact ⟨_, rfl, _, _, _, [], _, [], hW', trodAll_mk1 (shut_bool Try.underlying4 _), (trodAll_cons_mk (shut_int Try.underlying3 w0) (trodAll_cons_mk (shut_int Try.underlying3 w1) trodAll_mk0)), rfl, bel.frame _, fun h => by cases h⟩
theorem over : Rows.pathDeepRow.holds Try.pinned (OpenSpec.ofChange Rows.pathDeepSpec) :=
  OpenClaim.holds_of_wide 7 Try.f7 rfl rfl rfl rfl rfl rfl rfl ⟨rfl, rfl, rfl, rfl, rfl⟩ rfl rfl rfl rfl rfl (by kernel_rfl) Try.func7 (by kernel_rfl)
    (of_decide_eq_true (by kernel_rfl)) (by unfold Func.isWrapper; first | (rw [if_pos (by decide +kernel)]; kernel_rfl) | (rw [if_neg (by decide +kernel)]; exact ⟨rfl, rfl⟩))
    (fun os started H enc _ => lifted os started H enc)
theorem proved : Rows.PathDeepSaid := over
end Go.Proofs.Ytekedhfmdpbplaa.pathDeep
namespace Go.Proofs.Ytekedhfmdpbplaa
theorem pathDeep_holds : Rows.PathDeepSaid := pathDeep.proved
end Go.Proofs.Ytekedhfmdpbplaa
