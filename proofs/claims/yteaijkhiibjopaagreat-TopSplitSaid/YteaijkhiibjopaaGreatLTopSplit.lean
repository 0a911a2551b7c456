/- A leader that is cut off by the fall of both others does nothing that counts; what it was told then is done once, or not at all: for any two ints, the law's function returns true; no condition. -/
import Derived.Test.YteaijkhiibjopaaGreatTopSplit
import Derived.Test.YteaijkhiibjopaaGreatOpen
namespace Go.Proofs.YteaijkhiibjopaaGreat.LTopSplit
open Go.ChangeShapes Go.WideShapes Go.ChangeAt Go.RowKit Go.Esc Go.Vm

theorem own : ownKnob Tryz.prog.godebug = none := by kernel_rfl
theorem laidOut : laidOutB Tryz.prog = true := by kernel_rfl

set_option maxRecDepth 100000 in
theorem lifted (os : Os) (started : os.Started) (H : Type) (enc : TypeId × Value → H) :
    ReturnsInHanded {} Tryz.checked os 3 .any (Rows.topSplitSpec.pre6 enc Tryz.prog Tryz.f3 Rows.topSplitRow.domain false) (Rows.topSplitSpec.post enc Tryz.prog Tryz.f3 false true false false) := by
  refine returnsInHanded_of_change (C := Tryz.checked) own started (by kernel_rfl) Tryz.func3
    (ChangeSpec.witness6 (enc := enc) (C := Tryz.checked) false ⟨#[], #[.int .i64 0, .int .i64 0], []⟩ 8 (by kernel_rfl) (by kernel_rfl) (by kernel_rfl) (by kernel_rfl)) ?_
  intro W base args ds gs before hval0 hW hcnd _
  have hval : ∀ (j : Nat) t v, Tryz.f3.params[j]? = some t → args[j]? = some v → Value.okWide Tryz.prog W .any base t v := hval0
  have hW' := hW
  obtain ⟨p, q, hA0, hV, rfl, hfz, hnd⟩ := hW
  have hA : DataW.TrodAll enc Tryz.prog W 0 (fun _ => true) true Tryz.f3.params.toList args.toList ds p := hA0
  rw [Tryz.params3] at hA hval
  obtain ⟨v0, vs0, d0, ds0, p0, q0, hargs, rfl, rfl, k0, r0⟩ := trodAll_cons hA
  obtain ⟨v1, vs1, d1, ds1, p1, q1, rfl, rfl, rfl, k1, r1⟩ := trodAll_cons r0
  obtain ⟨rfl, rfl, rfl⟩ := trodAll_nil r1
  obtain rfl : args = #[v0, v1] := by cases args; simp_all
  obtain ⟨rfl, rfl⟩ := trodVars_none hV
  obtain ⟨n0, e0, h0⟩ := open_num Tryz.underlying3 (hval 0 3 v0 rfl rfl) k0
  obtain ⟨n1, e1, h1⟩ := open_num Tryz.underlying3 (hval 1 3 v1 rfl rfl) k1
  have lts : (∀ x ∈ p0, x.block < W.heap.size) ∧ (∀ x ∈ p1, x.block < W.heap.size) := ⟨places_lt k0, places_lt k1⟩
  subst e0
  subst e1
  clear hA0 hval0
  refine (split_walk W n0 n1 h0 h1).mono fun e W' ⟨he, hx⟩ => ?_
  subst he
  have bel := hx.belowAll
  exact ⟨_, rfl, _, _, _, [], _, [], hW', trodAll_mk1 (shut_bool Tryz.underlying4 _), (trodAll_cons_mk (Below.trod laidOut (by kernel_rfl) (of_decide_eq_true (by kernel_rfl)) k0 bel (lts.1)) (trodAll_cons_mk (Below.trod laidOut (by kernel_rfl) (of_decide_eq_true (by kernel_rfl)) k1 bel (lts.2)) trodAll_mk0)), rfl, bel.frame _, fun h => by cases h⟩

def cloL : List FuncId := [3,4,5,21,20,46,87,164,237,307,239,238,309,308,240,310,241,226,162,227,163,190,161,88,47,49,93,180,255,256,48,89,97,90,165,166,167,242,168,243,244,125,169,170,171,245,91,68,172,246,127,222,223,128,173,174,69,126,129,175,247,176,92,122,220,296,297,344,55,102,103,104,189,278,323,340,268,221,94,181,105,257,315,258,259,51,96,82,98,54,99,149,150,151,152,153,100,25,53,101,182,183,260,316,317,353,318,354,352,261,184,262,320,269,326,319,263,321,322,355,364,264,185,265,325,324,267,266,270,327,328,356,365,186,271,329,330,357,366,273,272,331,187,274,333,332,275,334,335,358,367,188,276,337,336,277,338,339,359,368,52,56,106,192,191,193,194,279,280,195,281,282,341,360,34,177,248,311,312,351,363,178,249,314,251,313,252,250,179,253,254,8,24,22,50,95,114,207,206,286,130,224,121,210,209,287,71,212,205,285,26,57,58,74,80,134,135,136,137,138,107,196,140,143,76,77,108,109,197,59,110,111,198,283,199,200,113,60,202,203,61,204,284,112,201,13,29,62,115,116,208,211,288,30,63,117,213,118,39,28,73,214,31,64,119,215,131,67,218,289,132,133,294,290,217,216,291,342,292,343,293,37,36,70,45,83,147,86,148,84,85,154,228,229,155,230,231,299,298,345,300,301,346,361,302,347,348,362,369,156,232,233,303,349,234,304,350,235,157,158,236,305,306,159,160,72,65,120,219,295,32,33,66,123,124,14,6,23,10,9,27,17,38,11,19,43,41,81,146,145,225,44,7,12,15,35,16,40,75,139,141,142,78,79,144,42,18]
theorem clo : Tryz.prog.closure 3 = cloL := by kernel_rfl
theorem f_inPlace : Tryz.prog.inPlace 3 = Rows.topSplitRow.inPlace := by unfold Program.inPlace; rw [clo]; kernel_rfl
theorem f_unf : Tryz.prog.unfollowed 3 = true := by unfold Program.unfollowed; rw [clo]; kernel_rfl
theorem f_rec : Tryz.prog.recurses 3 = true := by unfold Program.recurses; rw [f_unf]; rfl
theorem f_vars : Tryz.prog.varsNamed 3 = [] := by unfold Program.varsNamed; rw [clo]; kernel_rfl
set_option maxRecDepth 100000 in
set_option maxHeartbeats 8000000 in
theorem closed : joinedFacts Tryz.prog 3 Tryz.f3 Rows.topSplitSpec Rows.topSplitRow = true := by
  unfold joinedFacts
  rw [f_inPlace, f_unf, f_rec, f_vars, laidOut]
  simp only [Bool.and_eq_true]
  repeat' apply And.intro
  all_goals first | exact True.intro | (as_aux_lemma => kernel_rfl)
theorem f_named : Tryz.pinned.checked.prog.funcNamed Rows.topSplitRow.func = some 3 := by kernel_rfl
theorem f_inst : Tryz.f3.isInstance Tryz.pinned.checked.prog Rows.topSplitRow.origin Rows.topSplitRow.targs := of_decide_eq_true (by kernel_rfl)
theorem f_wrap : Tryz.f3.isWrapper Tryz.pinned.checked.prog Rows.topSplitRow.wrapper Rows.topSplitRow.mainSum := by unfold Func.isWrapper; first | (rw [if_pos (by decide +kernel)]; kernel_rfl) | (rw [if_neg (by decide +kernel)]; exact ⟨rfl, rfl⟩)
theorem over : Rows.topSplitRow.holds Tryz.pinned (OpenSpec.ofChange Rows.topSplitSpec) :=
  OpenClaim.holds_of_wide 3 Tryz.f3 rfl rfl rfl rfl rfl rfl rfl ⟨rfl, rfl, rfl, rfl, rfl⟩ rfl rfl rfl rfl rfl f_named Tryz.func3 closed f_inst f_wrap
    (fun os started H enc _ => lifted os started H enc)
end Go.Proofs.YteaijkhiibjopaaGreat.LTopSplit
namespace Go.Proofs.YteaijkhiibjopaaGreat
theorem topSplit_holds : Rows.TopSplitSaid := LTopSplit.over
#print axioms topSplit_holds
end Go.Proofs.YteaijkhiibjopaaGreat
