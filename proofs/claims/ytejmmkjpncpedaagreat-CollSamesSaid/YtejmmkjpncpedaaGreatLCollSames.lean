/- two collections that differ in one thing are not the same -/
import Derived.Test.YtejmmkjpncpedaaGreatCollSames
import Derived.Test.YtejmmkjpncpedaaGreatOpen
namespace Go.Proofs.YtejmmkjpncpedaaGreat.LCollSames
open Go.ChangeShapes Go.WideShapes Go.ChangeAt Go.RowKit Go.Esc
theorem own : ownKnob Tryz.prog.godebug = none := by kernel_rfl
theorem laidOut : laidOutB Tryz.prog = true := by kernel_rfl
set_option maxRecDepth 100000 in
theorem lifted (os : Os) (started : os.Started) (H : Type) (enc : TypeId × Value → H) :
    ReturnsInHanded {} Tryz.checked os 3 .any (Rows.collSamesSpec.pre6 enc Tryz.prog Tryz.f3 Rows.collSamesRow.domain false) (Rows.collSamesSpec.post enc Tryz.prog Tryz.f3 false true false false) := by
  refine returnsInHanded_of_change (C := Tryz.checked) own started (by kernel_rfl) Tryz.func3
    (ChangeSpec.witness6 (enc := enc) (C := Tryz.checked) false ⟨#[], #[.slice none 0 0, .int .i64 0, .int .i64 0], []⟩ 8 (by kernel_rfl) (by kernel_rfl) (by kernel_rfl) (by kernel_rfl)) ?_
  intro W base args ds gs before hval0 hW hcnd _
  have hval : ∀ (j : Nat) t v, Tryz.f3.params[j]? = some t → args[j]? = some v → Value.okWide Tryz.prog W .any base t v := hval0
  have hW' := hW
  obtain ⟨p, q, hA0, hV, rfl, hfz, hnd⟩ := hW
  have hA : DataW.TrodAll enc Tryz.prog W 0 (fun _ => true) true Tryz.f3.params.toList args.toList ds p := hA0
  rw [Tryz.params3] at hA hval
  obtain ⟨v0, vs0, d0, ds0, p0, q0, hargs, rfl, rfl, k0, r0⟩ := trodAll_cons hA
  obtain ⟨v1, vs1, d1, ds1, p1, q1, rfl, rfl, rfl, k1, r1⟩ := trodAll_cons r0
  obtain ⟨v2, vs2, d2, ds2, p2, q2, rfl, rfl, rfl, k2, r2⟩ := trodAll_cons r1
  obtain ⟨rfl, rfl, rfl⟩ := trodAll_nil r2
  obtain rfl : args = #[v0, v1, v2] := by cases args; simp_all
  obtain ⟨rfl, rfl⟩ := trodVars_none hV
  obtain ⟨x0_0, x0_1, x0_2, e0, h0_0, h0_1, h0_2, h0_3⟩ := open_ops (hval 0 22 v0 rfl rfl) k0
  obtain ⟨n1, e1, h1⟩ := open_num Tryz.underlying3 (hval 1 3 v1 rfl rfl) k1
  obtain ⟨n2, e2, h2⟩ := open_num Tryz.underlying3 (hval 2 3 v2 rfl rfl) k2
  have lts : (∀ x ∈ p0, x.block < W.heap.size) ∧ (∀ x ∈ p1, x.block < W.heap.size) ∧ (∀ x ∈ p2, x.block < W.heap.size) := ⟨places_lt k0, places_lt k1, places_lt k2⟩
  subst e0
  subst e1
  subst e2
  clear hA0 hval0
  refine (csames_walk W x0_0 x0_1 x0_2 n1 n2 h0_0 h0_1 h0_2 h0_3 h1 h2).mono fun e W' ⟨he, hx⟩ => ?_
  subst he
  have bel := hx.belowAll
  exact ⟨_, rfl, _, _, _, [], _, [], hW', trodAll_mk1 (shut_bool Tryz.underlying4 _), (trodAll_cons_mk (Below.trod laidOut (by kernel_rfl) (of_decide_eq_true (by kernel_rfl)) k0 bel (lts.1)) (trodAll_cons_mk (Below.trod laidOut (by kernel_rfl) (of_decide_eq_true (by kernel_rfl)) k1 bel (lts.2.1)) (trodAll_cons_mk (Below.trod laidOut (by kernel_rfl) (of_decide_eq_true (by kernel_rfl)) k2 bel (lts.2.2)) trodAll_mk0))), rfl, bel.frame _, fun h => by cases h⟩
theorem over : Rows.collSamesRow.holds Tryz.pinned (OpenSpec.ofChange Rows.collSamesSpec) :=
  OpenClaim.holds_of_wide 3 Tryz.f3 rfl rfl rfl rfl rfl rfl rfl ⟨rfl, rfl, rfl, rfl, rfl⟩ rfl rfl rfl rfl rfl (by kernel_rfl) Tryz.func3 (by kernel_rfl)
    (of_decide_eq_true (by kernel_rfl)) (by unfold Func.isWrapper; first | (rw [if_pos (by decide +kernel)]; kernel_rfl) | (rw [if_neg (by decide +kernel)]; exact ⟨rfl, rfl⟩))
    (fun os started H enc _ => lifted os started H enc)
end Go.Proofs.YtejmmkjpncpedaaGreat.LCollSames
namespace Go.Proofs.YtejmmkjpncpedaaGreat
theorem collSames_holds : Rows.CollSamesSaid := LCollSames.over
#print axioms collSames_holds
end Go.Proofs.YtejmmkjpncpedaaGreat
