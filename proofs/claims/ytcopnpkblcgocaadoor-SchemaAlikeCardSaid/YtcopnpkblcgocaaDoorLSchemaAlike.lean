/- Texts that differ in great letters, and in blanks at their ends, alone, are one by the third version, whatever the bytes and however many blanks. -/
import Derived.Test.YtcopnpkblcgocaaDoorSchemaAlike
import Derived.Test.YtcopnpkblcgocaaDoorOpen
import Derived.Test.YtcopnpkblcgocaaDoorTie
import Derived.Test.YtcopnpkblcgocaaDoorCards
import Derived.LaidMore
import Derived.Lay
import Derived.MakeChecks
import Derived.SevenTiedAt
import Derived.Stop.Joined
namespace Go.Proofs.YtcopnpkblcgocaaDoor.LSchemaAlike
open Go.ChangeShapes Go.WideShapes Go.ChangeAt Go.RowKit Go.Esc

theorem own : ownKnob Tryd.prog.godebug = none := by kernel_rfl
theorem laidOut : laidOutB Tryd.prog = true := by kernel_rfl

set_option maxRecDepth 100000 in
theorem lifted (os : Os) (started : os.Started) (H : Type) (enc : TypeId × Value → H) :
    ReturnsInHanded {} Tryd.checked os 5 .any (fun w args => (Rows.schemaAlikeSpec.pre enc Tryd.prog Tryd.f5 Rows.schemaAlikeRow.domain false w args ∧ laidMetH Tryd.prog Rows.schemaAlikeRow.laid w) ∧ sizedMet enc Tryd.prog Tryd.f5 (OpenSpec.ofChange Rows.schemaAlikeSpec) false w args) (Rows.schemaAlikeSpec.post enc Tryd.prog Tryd.f5 false true false false) := by
  refine returnsInHanded_of_change_and (C := Tryd.checked) (X := fun w _ => laidMetH Tryd.prog Rows.schemaAlikeRow.laid w) (fun _ _ _ hh h => h.of_heap hh) own started (by kernel_rfl) Tryd.func5
    (ChangeSpec.witness_shaped (enc := enc) (C := Tryd.checked) (os := os) (X := fun w _ => laidMetH Tryd.prog Rows.schemaAlikeRow.laid w) false (World.laidAll Tryd.prog os Rows.schemaAlikeRow.laid) #[.slice none 0 0, .int .i64 0, .int .i64 0] 8 (World.laidAll_os _ _ _)
      (World.shaped_of_ZipB (by kernel_rfl) (by kernel_rfl)) (by kernel_rfl) (by kernel_rfl) (by kernel_rfl)
      (by rw [MakeChecks.laidMetH_plain _ _ _ (by kernel_rfl)]; exact laidMet_laidAll _ (by kernel_rfl) (by kernel_rfl))) ?_
  intro W base args ds gs before hval0 hW hcnd _ hL _
  have hval : ∀ (j : Nat) t v, Tryd.f5.params[j]? = some t → args[j]? = some v → Value.okWide Tryd.prog W .any base t v := hval0
  have hW' := hW
  obtain ⟨p, q, hA0, hV, rfl, hfz, hnd⟩ := hW
  have hA : DataW.TrodAll enc Tryd.prog W 0 (fun _ => true) true Tryd.f5.params.toList args.toList ds p := hA0
  rw [Tryd.params5] at hA hval
  obtain ⟨v0, vs0, d0, ds0, p0, q0, hargs, rfl, rfl, k0, r0⟩ := trodAll_cons hA
  obtain ⟨v1, vs1, d1, ds1, p1, q1, rfl, rfl, rfl, k1, r1⟩ := trodAll_cons r0
  obtain ⟨v2, vs2, d2, ds2, p2, q2, rfl, rfl, rfl, k2, r2⟩ := trodAll_cons r1
  obtain ⟨rfl, rfl, rfl⟩ := trodAll_nil r2
  obtain rfl : args = #[v0, v1, v2] := by cases args; simp_all
  obtain ⟨rfl, rfl⟩ := trodVars_none hV
  obtain ⟨a0, l0, c0, e0, hr0, hc0, hm0⟩ := open_bytes Tryd.underlying29 Tryd.underlying5 (by kernel_rfl) (hval 0 29 v0 rfl rfl) k0
  obtain ⟨n1, e1, h1⟩ := open_num Tryd.underlying3 (hval 1 3 v1 rfl rfl) k1
  obtain ⟨n2, e2, h2⟩ := open_num Tryd.underlying3 (hval 2 3 v2 rfl rfl) k2
  have lts : (∀ x ∈ p0, x.block < W.heap.size) ∧ (∀ x ∈ p1, x.block < W.heap.size) ∧ (∀ x ∈ p2, x.block < W.heap.size) := ⟨places_lt k0, places_lt k1, places_lt k2⟩
  subst e0
  subst e1
  subst e2
  clear hA0 hval0
  refine (alike_walk W a0 l0 c0 n1 n2 hr0 hc0 hm0 h1 h2).mono fun e W' ⟨he, hx⟩ => ?_
  subst he
  have bel := hx.belowAll
  exact ⟨_, rfl, _, _, _, [], _, [], hW', trodAll_mk1 (shut_bool Tryd.underlying4 _), (trodAll_cons_mk (Below.trod laidOut (by kernel_rfl) (of_decide_eq_true (by kernel_rfl)) k0 bel (lts.1)) (trodAll_cons_mk (Below.trod laidOut (by kernel_rfl) (of_decide_eq_true (by kernel_rfl)) k1 bel (lts.2.1)) (trodAll_cons_mk (Below.trod laidOut (by kernel_rfl) (of_decide_eq_true (by kernel_rfl)) k2 bel (lts.2.2)) trodAll_mk0))), rfl, bel.frame _, fun h => by cases h⟩

theorem over : Rows.schemaAlikeRow.holds Tryd.pinned (OpenSpec.ofChange Rows.schemaAlikeSpec) :=
  OpenClaim.holds_of_wide 5 Tryd.f5 rfl rfl rfl rfl rfl rfl rfl ⟨rfl, rfl, rfl, rfl, rfl⟩ rfl rfl rfl rfl rfl (by kernel_rfl) Tryd.func5 (by kernel_rfl)
    (of_decide_eq_true (by kernel_rfl)) (by unfold Func.isWrapper; first | (rw [if_pos (by decide +kernel)]; kernel_rfl) | (rw [if_neg (by decide +kernel)]; exact ⟨rfl, rfl⟩))
    (fun os started H enc _ => lifted os started H enc)
end Go.Proofs.YtcopnpkblcgocaaDoor.LSchemaAlike
namespace Go.Proofs.YtcopnpkblcgocaaDoor
set_option maxRecDepth 100000 in
theorem schemaAlike_holds : Rows.SchemaAlikeCardSaid :=
  Claim7.holds_tied_plain_at .later [] [.data, .pinned] true (true, "e8047b325ff8932f7c21dadbd5a0eb0419622f02caf4d530ba50d7ce1224dc4e") false LSchemaAlike.over (fun _ h => by cases h) (by kernel_rfl) (fun _ h => by cases h) schemaAlike_row_tie rfl ⟨rfl, rfl⟩ (by kernel_rfl) rfl
    (fun f fn hf hfn => by
      obtain rfl : f = 5 := Option.some.inj ((show Tryd.prog.funcNamed "escrow/escrowlaw8.SchemaAlike" = some 5 by kernel_rfl).symm.trans hf) |>.symm
      obtain rfl : fn = Tryd.f5 := (Option.some.inj (Tryd.func5.symm.trans hfn)).symm
      exact ⟨by kernel_rfl, fun j t ht => by
        rw [Tryd.params5] at ht
        have hm : t ∈ [29, 3, 3] := by
          have := Array.mem_of_getElem? ht
          simpa using this
        have hall : ([29, 3, 3].all fun u => !Tryd.prog.wantsStandIn u) = true := by kernel_rfl
        exact (show Tryd.prog.wantsStandIn t = false by simpa using List.all_eq_true.1 hall t hm)⟩)
    (by kernel_rfl)
#print axioms schemaAlike_holds
end Go.Proofs.YtcopnpkblcgocaaDoor
