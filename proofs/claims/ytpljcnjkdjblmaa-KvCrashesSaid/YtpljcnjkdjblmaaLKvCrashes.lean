/- Wherever the power goes, a store that is opened anew has all batches that were answered, and the one that was under way whole, or not at all. -/
import Derived.Test.YtpljcnjkdjblmaaKvCrashes
import Derived.Test.YtpljcnjkdjblmaaKO
namespace Go.Proofs.Ytpljcnjkdjblmaa.LKvCrashes
open Go.ChangeShapes Go.WideShapes Go.ChangeAt Go.RowKit Go.Esc

theorem own : ownKnob Try.prog.godebug = none := by kernel_rfl
theorem laidOut : laidOutB Try.prog = true := by kernel_rfl

set_option maxRecDepth 100000 in
theorem lifted (os : Os) (started : os.Started) (H : Type) (enc : TypeId × Value → H) :
    ReturnsInHanded {} Try.checked os 9 .any (Rows.kvCrashesSpec.pre6 enc Try.prog Try.f9 Rows.kvCrashesRow.domain false) (Rows.kvCrashesSpec.post enc Try.prog Try.f9 false true false false) := by
  refine returnsInHanded_of_change (C := Try.checked) own started (by kernel_rfl) Try.func9
    (ChangeSpec.witness6 (enc := enc) (C := Try.checked) false ⟨#[], #[.slice none 0 0], []⟩ 8 (by kernel_rfl) (by kernel_rfl) (by kernel_rfl) (by kernel_rfl)) ?_
  intro W base args ds gs before hval0 hW hcnd _
  have hval : ∀ (j : Nat) t v, Try.f9.params[j]? = some t → args[j]? = some v → Value.okWide Try.prog W .any base t v := hval0
  have hW' := hW
  obtain ⟨p, q, hA0, hV, rfl, hfz, hnd⟩ := hW
  have hA : DataW.TrodAll enc Try.prog W 0 (fun _ => true) true Try.f9.params.toList args.toList ds p := hA0
  rw [Try.params9] at hA hval
  obtain ⟨v0, vs0, d0, ds0, p0, q0, hargs, rfl, rfl, k0, r0⟩ := trodAll_cons hA
  obtain ⟨rfl, rfl, rfl⟩ := trodAll_nil r0
  obtain rfl : args = #[v0] := by cases args; simp_all
  obtain ⟨rfl, rfl⟩ := trodVars_none hV
  obtain ⟨x0_0, x0_1, x0_2, e0, h0_0, h0_1, h0_2, h0_3⟩ := open_acts (hval 0 54 v0 rfl rfl) k0
  have lts : (∀ x ∈ p0, x.block < W.heap.size) := places_lt k0
  subst e0
  clear hA0 hval0
  refine (kvcrashes_walk W x0_0 x0_1 x0_2 h0_0 h0_1 h0_2 h0_3).mono fun e W' ⟨he, hx⟩ => ?_
  subst he
  have bel := hx.belowAll
  exact ⟨_, rfl, _, _, _, [], _, [], hW', trodAll_mk1 (shut_bool Try.underlying4 _), (trodAll_cons_mk (Below.trod laidOut (by kernel_rfl) (of_decide_eq_true (by kernel_rfl)) k0 bel (lts)) trodAll_mk0), rfl, bel.frame _, fun h => by cases h⟩

theorem over : Rows.kvCrashesRow.holds Try.pinned (OpenSpec.ofChange Rows.kvCrashesSpec) :=
  OpenClaim.holds_of_wide 9 Try.f9 rfl rfl rfl rfl rfl rfl rfl ⟨rfl, rfl, rfl, rfl, rfl⟩ rfl rfl rfl rfl rfl (by kernel_rfl) Try.func9 (by kernel_rfl)
    (of_decide_eq_true (by kernel_rfl)) (by unfold Func.isWrapper; first | (rw [if_pos (by decide +kernel)]; kernel_rfl) | (rw [if_neg (by decide +kernel)]; exact ⟨rfl, rfl⟩))
    (fun os started H enc _ => lifted os started H enc)
end Go.Proofs.Ytpljcnjkdjblmaa.LKvCrashes
namespace Go.Proofs.Ytpljcnjkdjblmaa
theorem kvCrashes_holds : Rows.KvCrashesSaid := LKvCrashes.over
#print axioms kvCrashes_holds
end Go.Proofs.Ytpljcnjkdjblmaa
