/- Whatever batches come, a store takes and refuses them as the document says, and tells all of it; opened anew, too. -/
import Derived.Test.YtpljcnjkdjblmaaKvPlays
import Derived.Test.YtpljcnjkdjblmaaKO
namespace Go.Proofs.Ytpljcnjkdjblmaa.LKvPlays
open Go.ChangeShapes Go.WideShapes Go.ChangeAt Go.RowKit Go.Esc

theorem own : ownKnob Try.prog.godebug = none := by kernel_rfl
theorem laidOut : laidOutB Try.prog = true := by kernel_rfl

set_option maxRecDepth 100000 in
theorem lifted (os : Os) (started : os.Started) (H : Type) (enc : TypeId × Value → H) :
    ReturnsInHanded {} Try.checked os 7 .any (Rows.kvPlaysSpec.pre6 enc Try.prog Try.f7 Rows.kvPlaysRow.domain false) (Rows.kvPlaysSpec.post enc Try.prog Try.f7 false true false false) := by
  refine returnsInHanded_of_change (C := Try.checked) own started (by kernel_rfl) Try.func7
    (ChangeSpec.witness6 (enc := enc) (C := Try.checked) false ⟨#[], #[.slice none 0 0, .string ByteArray.empty, .int .i64 0, .int .i64 0, .string ByteArray.empty], []⟩ 8 (by kernel_rfl) (by kernel_rfl) (by kernel_rfl) (by kernel_rfl)) ?_
  intro W base args ds gs before hval0 hW hcnd _
  have hval : ∀ (j : Nat) t v, Try.f7.params[j]? = some t → args[j]? = some v → Value.okWide Try.prog W .any base t v := hval0
  have hW' := hW
  obtain ⟨p, q, hA0, hV, rfl, hfz, hnd⟩ := hW
  have hA : DataW.TrodAll enc Try.prog W 0 (fun _ => true) true Try.f7.params.toList args.toList ds p := hA0
  rw [Try.params7] at hA hval
  obtain ⟨v0, vs0, d0, ds0, p0, q0, hargs, rfl, rfl, k0, r0⟩ := trodAll_cons hA
  obtain ⟨v1, vs1, d1, ds1, p1, q1, rfl, rfl, rfl, k1, r1⟩ := trodAll_cons r0
  obtain ⟨v2, vs2, d2, ds2, p2, q2, rfl, rfl, rfl, k2, r2⟩ := trodAll_cons r1
  obtain ⟨v3, vs3, d3, ds3, p3, q3, rfl, rfl, rfl, k3, r3⟩ := trodAll_cons r2
  obtain ⟨v4, vs4, d4, ds4, p4, q4, rfl, rfl, rfl, k4, r4⟩ := trodAll_cons r3
  obtain ⟨rfl, rfl, rfl⟩ := trodAll_nil r4
  obtain rfl : args = #[v0, v1, v2, v3, v4] := by cases args; simp_all
  obtain ⟨rfl, rfl⟩ := trodVars_none hV
  obtain ⟨x0_0, x0_1, x0_2, e0, h0_0, h0_1, h0_2, h0_3⟩ := open_acts (hval 0 54 v0 rfl rfl) k0
  obtain ⟨t1, e1, h1⟩ := open_str Try.underlying9 (hval 1 9 v1 rfl rfl) k1
  obtain ⟨n2, e2, h2⟩ := open_num Try.underlying3 (hval 2 3 v2 rfl rfl) k2
  obtain ⟨n3, e3, h3⟩ := open_num Try.underlying3 (hval 3 3 v3 rfl rfl) k3
  obtain ⟨t4, e4, h4⟩ := open_str Try.underlying9 (hval 4 9 v4 rfl rfl) k4
  have lts : (∀ x ∈ p0, x.block < W.heap.size) ∧ (∀ x ∈ p1, x.block < W.heap.size) ∧ (∀ x ∈ p2, x.block < W.heap.size) ∧ (∀ x ∈ p3, x.block < W.heap.size) ∧ (∀ x ∈ p4, x.block < W.heap.size) := ⟨places_lt k0, places_lt k1, places_lt k2, places_lt k3, places_lt k4⟩
  subst e0
  subst e1
  subst e2
  subst e3
  subst e4
  clear hA0 hval0
  refine (kvplays_walk W x0_0 x0_1 x0_2 t1 n2 n3 t4 h0_0 h0_1 h0_2 h0_3 h1 h2 h3 h4).mono fun e W' ⟨he, hx⟩ => ?_
  subst he
  have bel := hx.belowAll
  exact ⟨_, rfl, _, _, _, [], _, [], hW', trodAll_mk1 (shut_bool Try.underlying4 _), (trodAll_cons_mk (Below.trod laidOut (by kernel_rfl) (of_decide_eq_true (by kernel_rfl)) k0 bel (lts.1)) (trodAll_cons_mk (Below.trod laidOut (by kernel_rfl) (of_decide_eq_true (by kernel_rfl)) k1 bel (lts.2.1)) (trodAll_cons_mk (Below.trod laidOut (by kernel_rfl) (of_decide_eq_true (by kernel_rfl)) k2 bel (lts.2.2.1)) (trodAll_cons_mk (Below.trod laidOut (by kernel_rfl) (of_decide_eq_true (by kernel_rfl)) k3 bel (lts.2.2.2.1)) (trodAll_cons_mk (Below.trod laidOut (by kernel_rfl) (of_decide_eq_true (by kernel_rfl)) k4 bel (lts.2.2.2.2)) trodAll_mk0))))), rfl, bel.frame _, fun h => by cases h⟩

theorem over : Rows.kvPlaysRow.holds Try.pinned (OpenSpec.ofChange Rows.kvPlaysSpec) :=
  OpenClaim.holds_of_wide 7 Try.f7 rfl rfl rfl rfl rfl rfl rfl ⟨rfl, rfl, rfl, rfl, rfl⟩ rfl rfl rfl rfl rfl (by kernel_rfl) Try.func7 (by kernel_rfl)
    (of_decide_eq_true (by kernel_rfl)) (by unfold Func.isWrapper; first | (rw [if_pos (by decide +kernel)]; kernel_rfl) | (rw [if_neg (by decide +kernel)]; exact ⟨rfl, rfl⟩))
    (fun os started H enc _ => lifted os started H enc)
end Go.Proofs.Ytpljcnjkdjblmaa.LKvPlays
namespace Go.Proofs.Ytpljcnjkdjblmaa
theorem kvPlays_holds : Rows.KvPlaysSaid := LKvPlays.over
#print axioms kvPlays_holds
end Go.Proofs.Ytpljcnjkdjblmaa
