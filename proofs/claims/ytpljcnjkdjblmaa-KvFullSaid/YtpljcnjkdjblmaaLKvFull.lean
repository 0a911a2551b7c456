/- Where there is no room nothing is done, and what was there stays; it goes on as long as there is some. -/
import Derived.Test.YtpljcnjkdjblmaaKvFull
import Derived.Test.YtpljcnjkdjblmaaKO
namespace Go.Proofs.Ytpljcnjkdjblmaa.LKvFull
open Go.ChangeShapes Go.WideShapes Go.ChangeAt Go.RowKit Go.Esc

theorem own : ownKnob Try.prog.godebug = none := by kernel_rfl
theorem laidOut : laidOutB Try.prog = true := by kernel_rfl

set_option maxRecDepth 100000 in
theorem lifted (os : Os) (started : os.Started) (H : Type) (enc : TypeId × Value → H) :
    ReturnsInHanded {} Try.checked os 6 .any (Rows.kvFullSpec.pre6 enc Try.prog Try.f6 Rows.kvFullRow.domain false) (Rows.kvFullSpec.post enc Try.prog Try.f6 false true false false) := by
  refine returnsInHanded_of_change (C := Try.checked) own started (by kernel_rfl) Try.func6
    (ChangeSpec.witness6 (enc := enc) (C := Try.checked) false ⟨#[], #[.int .i64 0, .slice none 0 0], []⟩ 8 (by kernel_rfl) (by kernel_rfl) (by kernel_rfl) (by kernel_rfl)) ?_
  intro W base args ds gs before hval0 hW hcnd _
  have hval : ∀ (j : Nat) t v, Try.f6.params[j]? = some t → args[j]? = some v → Value.okWide Try.prog W .any base t v := hval0
  have hW' := hW
  obtain ⟨p, q, hA0, hV, rfl, hfz, hnd⟩ := hW
  have hA : DataW.TrodAll enc Try.prog W 0 (fun _ => true) true Try.f6.params.toList args.toList ds p := hA0
  rw [Try.params6] at hA hval
  obtain ⟨v0, vs0, d0, ds0, p0, q0, hargs, rfl, rfl, k0, r0⟩ := trodAll_cons hA
  obtain ⟨v1, vs1, d1, ds1, p1, q1, rfl, rfl, rfl, k1, r1⟩ := trodAll_cons r0
  obtain ⟨rfl, rfl, rfl⟩ := trodAll_nil r1
  obtain rfl : args = #[v0, v1] := by cases args; simp_all
  obtain ⟨rfl, rfl⟩ := trodVars_none hV
  obtain ⟨n0, e0, h0⟩ := open_num Try.underlying3 (hval 0 3 v0 rfl rfl) k0
  obtain ⟨x1_0, x1_1, x1_2, e1, h1_0, h1_1, h1_2, h1_3⟩ := open_acts (hval 1 54 v1 rfl rfl) k1
  have lts : (∀ x ∈ p0, x.block < W.heap.size) ∧ (∀ x ∈ p1, x.block < W.heap.size) := ⟨places_lt k0, places_lt k1⟩
  subst e0
  subst e1
  clear hA0 hval0
  refine (kvfull_walk W n0 x1_0 x1_1 x1_2 h0 h1_0 h1_1 h1_2 h1_3).mono fun e W' ⟨he, hx⟩ => ?_
  subst he
  have bel := hx.belowAll
  exact ⟨_, rfl, _, _, _, [], _, [], hW', trodAll_mk1 (shut_bool Try.underlying4 _), (trodAll_cons_mk (Below.trod laidOut (by kernel_rfl) (of_decide_eq_true (by kernel_rfl)) k0 bel (lts.1)) (trodAll_cons_mk (Below.trod laidOut (by kernel_rfl) (of_decide_eq_true (by kernel_rfl)) k1 bel (lts.2)) trodAll_mk0)), rfl, bel.frame _, fun h => by cases h⟩

theorem over : Rows.kvFullRow.holds Try.pinned (OpenSpec.ofChange Rows.kvFullSpec) :=
  OpenClaim.holds_of_wide 6 Try.f6 rfl rfl rfl rfl rfl rfl rfl ⟨rfl, rfl, rfl, rfl, rfl⟩ rfl rfl rfl rfl rfl (by kernel_rfl) Try.func6 (by kernel_rfl)
    (of_decide_eq_true (by kernel_rfl)) (by unfold Func.isWrapper; first | (rw [if_pos (by decide +kernel)]; kernel_rfl) | (rw [if_neg (by decide +kernel)]; exact ⟨rfl, rfl⟩))
    (fun os started H enc _ => lifted os started H enc)
end Go.Proofs.Ytpljcnjkdjblmaa.LKvFull
namespace Go.Proofs.Ytpljcnjkdjblmaa
theorem kvFull_holds : Rows.KvFullSaid := LKvFull.over
#print axioms kvFull_holds
end Go.Proofs.Ytpljcnjkdjblmaa
