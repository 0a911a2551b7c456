/- P1403, T6: any bytes, a message's with some turned, cut off, or more behind, also with their sum made right again, are read, or refused, as the document says; what is read is written as it stood. -/
import Derived.Test.YtddobhihjljcgaaGreatWireReads
import Derived.Test.YtddobhihjljcgaaGreatMA
namespace Go.Proofs.YtddobhihjljcgaaGreat.LWireReads
open Go.ChangeShapes Go.WideShapes Go.ChangeAt Go.RowKit Go.Esc
theorem own : ownKnob Tryz.prog.godebug = none := by kernel_rfl
theorem laidOut : laidOutB Tryz.prog = true := by kernel_rfl
set_option maxRecDepth 100000 in
theorem lifted (os : Os) (started : os.Started) (H : Type) (enc : TypeId × Value → H) :
  ReturnsInHanded {} Tryz.checked os 3 .any (Rows.wireReadsSpec.pre6 enc Tryz.prog Tryz.f3 Rows.wireReadsRow.domain false) (Rows.wireReadsSpec.post enc Tryz.prog Tryz.f3 false true false false) := by
 refine returnsInHanded_of_change (C := Tryz.checked) own started (by kernel_rfl) Tryz.func3
  (ChangeSpec.witness6 (enc := enc) (C := Tryz.checked) false ⟨#[], #[.agg #[.int .i64 0, .int .i64 0, .int .i64 0, .int .i64 0, .int .i64 0, .int .i64 0, .slice none 0 0, .int .i64 0, .int .i64 0, .int .i64 0, .int .i64 0, .int .i64 0, .int .i64 0, .slice none 0 0, .slice none 0 0, .int .i64 0, .int .i64 0, .int .i64 0, .int .i64 0, .int .i64 0, .int .i64 0, .slice none 0 0, .slice none 0 0, .slice none 0 0, .slice none 0 0], .slice none 0 0, .slice none 0 0, .int .i64 0, .slice none 0 0, .bool false], []⟩ 8 (by kernel_rfl) (by kernel_rfl) (by kernel_rfl) (by kernel_rfl)) ?_
 intro W base args ds gs before hval0 hW hcnd _
 have hval : ∀ (j : Nat) t v, Tryz.f3.params[j]? = some t → args[j]? = some v → Value.okWide Tryz.prog W .any base t v := hval0
 have hW' := hW
 obtain ⟨p, q, hA0, hV, rfl, hfz, hnd⟩ := hW
 have hA : DataW.TrodAll enc Tryz.prog W 0 (fun _ => true) true Tryz.f3.params.toList args.toList ds p := hA0
 rw [Tryz.params3] at hA hval
 obtain ⟨v0, vs0, d0, ds0, p0, q0, hargs, rfl, rfl, k0, r0⟩ := trodAll_cons hA
 obtain ⟨v1, vs1, d1, ds1, p1, q1, rfl, rfl, rfl, k1, r1⟩ := trodAll_cons r0
 obtain ⟨v2, vs2, d2, ds2, p2, q2, rfl, rfl, rfl, k2, r2⟩ := trodAll_cons r1
 obtain ⟨v3, vs3, d3, ds3, p3, q3, rfl, rfl, rfl, k3, r3⟩ := trodAll_cons r2
 obtain ⟨v4, vs4, d4, ds4, p4, q4, rfl, rfl, rfl, k4, r4⟩ := trodAll_cons r3
 obtain ⟨v5, vs5, d5, ds5, p5, q5, rfl, rfl, rfl, k5, r5⟩ := trodAll_cons r4
 obtain ⟨rfl, rfl, rfl⟩ := trodAll_nil r5
 obtain rfl : args = #[v0, v1, v2, v3, v4, v5] := by cases args; simp_all
 obtain ⟨rfl, rfl⟩ := trodVars_none hV
 obtain ⟨x0_0, x0_1, e0, h0_0, h0_1⟩ := open_msg (hval 0 36 v0 rfl rfl) k0
 obtain ⟨a1, l1, c1, e1, hr1, ho1, hc1, hm1⟩ := open_nums Tryz.underlying30 Tryz.underlying3 (by kernel_rfl) (hval 1 30 v1 rfl rfl) k1
 obtain ⟨a2, l2, c2, e2, hr2, hc2, hm2⟩ := open_bytes Tryz.underlying37 Tryz.underlying5 (by kernel_rfl) (hval 2 37 v2 rfl rfl) k2
 obtain ⟨n3, e3, h3⟩ := open_num Tryz.underlying3 (hval 3 3 v3 rfl rfl) k3
 obtain ⟨a4, l4, c4, e4, hr4, hc4, hm4⟩ := open_bytes Tryz.underlying37 Tryz.underlying5 (by kernel_rfl) (hval 4 37 v4 rfl rfl) k4
 obtain ⟨b5, e5⟩ := open_flag Tryz.underlying4 (hval 5 4 v5 rfl rfl) k5
 have lts : (∀ x ∈ p0, x.block < W.heap.size) ∧ (∀ x ∈ p1, x.block < W.heap.size) ∧ (∀ x ∈ p2, x.block < W.heap.size) ∧ (∀ x ∈ p3, x.block < W.heap.size) ∧ (∀ x ∈ p4, x.block < W.heap.size) ∧ (∀ x ∈ p5, x.block < W.heap.size) := ⟨places_lt k0, places_lt k1, places_lt k2, places_lt k3, places_lt k4, places_lt k5⟩
 subst e0
 subst e1
 subst e2
 subst e3
 subst e4
 subst e5
 clear hA0 hval0
 refine (wreads_walk W x0_0 x0_1 a1 l1 c1 a2 l2 c2 n3 a4 l4 c4 b5 h0_0 h0_1 hr1 ho1 hc1 hm1 hr2 hc2 hm2 h3 hr4 hc4 hm4).mono fun e W' ⟨he, hx⟩ => ?_
 subst he
 have bel := hx.belowAll
 exact ⟨_, rfl, _, _, _, [], _, [], hW', trodAll_mk1 (shut_bool Tryz.underlying4 _), (trodAll_cons_mk (Below.trod laidOut (by kernel_rfl) (of_decide_eq_true (by kernel_rfl)) k0 bel (lts.1)) (trodAll_cons_mk (Below.trod laidOut (by kernel_rfl) (of_decide_eq_true (by kernel_rfl)) k1 bel (lts.2.1)) (trodAll_cons_mk (Below.trod laidOut (by kernel_rfl) (of_decide_eq_true (by kernel_rfl)) k2 bel (lts.2.2.1)) (trodAll_cons_mk (Below.trod laidOut (by kernel_rfl) (of_decide_eq_true (by kernel_rfl)) k3 bel (lts.2.2.2.1)) (trodAll_cons_mk (Below.trod laidOut (by kernel_rfl) (of_decide_eq_true (by kernel_rfl)) k4 bel (lts.2.2.2.2.1)) (trodAll_cons_mk (Below.trod laidOut (by kernel_rfl) (of_decide_eq_true (by kernel_rfl)) k5 bel (lts.2.2.2.2.2)) trodAll_mk0)))))), rfl, bel.frame _, fun h => by cases h⟩
theorem over : Rows.wireReadsRow.holds Tryz.pinned (OpenSpec.ofChange Rows.wireReadsSpec) :=
 OpenClaim.holds_of_wide 3 Tryz.f3 rfl rfl rfl rfl rfl rfl rfl ⟨rfl, rfl, rfl, rfl, rfl⟩ rfl rfl rfl rfl rfl (by kernel_rfl) Tryz.func3 (by kernel_rfl)
  (of_decide_eq_true (by kernel_rfl)) (by unfold Func.isWrapper; first | (rw [if_pos (by decide +kernel)]; kernel_rfl) | (rw [if_neg (by decide +kernel)]; exact ⟨rfl, rfl⟩))
  (fun os started H enc _ => lifted os started H enc)
end Go.Proofs.YtddobhihjljcgaaGreat.LWireReads
namespace Go.Proofs.YtddobhihjljcgaaGreat
theorem wireReads_holds : Rows.WireReadsSaid := LWireReads.over
#print axioms wireReads_holds
end Go.Proofs.YtddobhihjljcgaaGreat
