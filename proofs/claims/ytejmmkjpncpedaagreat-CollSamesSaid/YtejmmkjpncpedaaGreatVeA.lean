/- Walks of the package vector: at, Get, Has, laid, Step. -/
import Derived.Test.YtejmmkjpncpedaaGreatCoD
import Derived.Test.YtejmmkjpncpedaaGreatCoE
import Derived.Test.YtejmmkjpncpedaaGreatCoM
import Derived.Test.YtejmmkjpncpedaaGreatRowD
import Derived.Test.YtejmmkjpncpedaaGreatCoS
namespace Go.Proofs.YtejmmkjpncpedaaGreat
open Go.RowKit Go.Esc
set_option linter.unusedVariables false
set_option linter.unusedSimpArgs false
set_option maxRecDepth 100000 in
set_option maxHeartbeats 1000000 in
theorem at_any (w : World) (va : Option Addr) (vc : Nat) (v : List DotR) (p : Int × Int) (hr : Rd w va (rows DotR.cells v)) (hl : v.length ≤ 1099511627776) (ho : InOrd DotR.pair pairLt v) :
    Calls Tryz.prog 71 #[.slice va v.length vc, .agg #[.int .i64 p.1, .int .i64 p.2]] w fun e w' => e = .returned (.tuple #[.int .i64 (posOf DotR.pair pairLt p v), .bool (isAt DotR.pair pairLt p v)]) ∧ Ext no w w' := by
  have hmf : ∀ (fn : Fn) (first cap : Array Value) (w : World), (Instr.makeFunc fn first cap).run Tryz.prog w = .ok (.func fn first cap) w := fun _ _ _ _ => rfl
  go_enter Tryz.func71, Tryz.ntmps71
  go_upto_region 1 with fail
  have hb := Blk.lit w #[.int .i64 p.1, .int .i64 p.2] 113
  have hx1 := Ext.alloc no w (.cells #[.int .i64 p.1, .int .i64 p.2] 113)
  generalize w.alloc (.cells #[.int .i64 p.1, .int .i64 p.2] 113) = w1 at *
  have q0 : w1.cell? ⟨w.heap.size, 0, none⟩ = some (.int .i64 p.1) := hb.cell 0 _ rfl
  have q1 : w1.cell? ⟨w.heap.size, 0 + 1, none⟩ = some (.int .i64 p.2) := hb.cell 1 _ rfl
  have hr1 := hr.ext hx1 (fun _ _ h => h)
  go_wp2_with fail
  refine (findV_any w1 va vc v 98 w.heap.size 0 (fun x => cmpP x.pair p) hr1 hl (fun _ _ => by kernel_rfl) (fun w2 x hx hx2 => at1_any w2 x p _ _ (hx2.keeps q0 (fun h => h)) (hx2.keeps q1 (fun h => h)))
    (posOf DotR.pair pairLt p v) (posOf_le _ _) (fun j x hj hjn => (cmpP_neg _ _).2 ((less_iff pairOrd p v ho j x hj).2 hjn)) (fun x hx h => by have := (less_iff pairOrd p v ho _ x hx).1 ((cmpP_neg _ _).1 h); omega)).mono ?_
  rintro e w2 ⟨rfl, hx2⟩
  have Hq := Lib.hid (show atCmp (fun x => cmpP x.pair p) v (posOf DotR.pair pairLt p v) = isAt DotR.pair pairLt p v from atCmp_isAt' (κ := DotR.pair) v (fun x => cmpP_zero _ _))
  rw [Hq.out]
  go_wp2_with fail
  go_ret2
  exact ⟨rfl, hx1.comp hx2⟩
set_option maxRecDepth 100000 in
set_option maxHeartbeats 1000000 in
theorem get_any (w : World) (va : Option Addr) (vc : Nat) (v : List DotR) (d p : Int) (hr : Rd w va (rows DotR.cells v)) (hl : v.length ≤ 1099511627776) (ho : InOrd DotR.pair pairLt v) :
    Calls Tryz.prog 70 #[.slice va v.length vc, .int .i64 d, .int .i64 p] w fun e w' => e = .returned (.int .i64 (Go.Esc.seen v d p)) ∧ Ext no w w' := by
  obtain ⟨S, hS⟩ : ∃ S, S = Go.Esc.seen v d p := ⟨_, rfl⟩
  rw [← hS]
  go_enter Tryz.func70, Tryz.ntmps70
  go_wp2_with fail
  refine (at_any w va vc v (d, p) hr hl ho).mono ?_
  rintro e w1 ⟨rfl, hx1⟩
  have hlk := look_at pairOrd (d, p) v ho
  cases his : isAt DotR.pair pairLt (d, p) v with
  | true =>
    obtain ⟨x, hx, hxk⟩ := isAt_some his
    rw [his, if_pos rfl, hx] at hlk
    have Hs := Lib.hid (show S = x.seq by rw [hS]; unfold Go.Esc.seen; rw [hlk])
    clear hlk hS
    generalize posOf DotR.pair pairLt (d, p) v = pp at *
    have hpl : pp < v.length := (List.getElem?_eq_some_iff.1 hx).1
    obtain ⟨b, off, rfl, _⟩ := rows_shape kEntry (by omega) hr (by omega)
    have y : w1.cell? ⟨b, off + pp * 3 + 2, none⟩ = some (.int .i64 x.seq) := rows_cell kEntry (hr.ext hx1 (fun _ _ h => h)) hx 2 _ rfl
    clear his hxk hx
    go_wp2_with fail
    go_ret
    exact ⟨by rw [Hs.out]; rfl, hx1⟩
  | false =>
    rw [his] at hlk
    have Hs := Lib.hid (show S = 0 by rw [hS]; unfold Go.Esc.seen; rw [hlk]; rfl)
    clear hlk hS his
    generalize posOf DotR.pair pairLt (d, p) v = pp at *
    go_wp2_with fail
    go_ret
    exact ⟨by rw [Hs.out]; rfl, hx1⟩
def hasB (v : List DotR) (d : DotR) : Bool := decide (1 ≤ d.seq ∧ d.seq ≤ Go.Esc.seen v d.dev d.ep)
set_option maxRecDepth 100000 in
set_option maxHeartbeats 1000000 in
theorem has_any (w : World) (va : Option Addr) (vc : Nat) (v : List DotR) (d : DotR) (hr : Rd w va (rows DotR.cells v)) (hl : v.length ≤ 1099511627776) (ho : InOrd DotR.pair pairLt v) :
    Calls Tryz.prog 47 #[.slice va v.length vc, .agg #[.int .i64 d.dev, .int .i64 d.ep, .int .i64 d.seq]] w fun e w' => e = .returned (.bool (hasB v d)) ∧ Ext no w w' := by
  go_enter Tryz.func47, Tryz.ntmps47
  go_upto_region 1 with fail
  have hb := Blk.lit w #[.int .i64 d.dev, .int .i64 d.ep, .int .i64 d.seq] 39
  have hx1 := Ext.alloc no w (.cells #[.int .i64 d.dev, .int .i64 d.ep, .int .i64 d.seq] 39)
  generalize w.alloc (.cells #[.int .i64 d.dev, .int .i64 d.ep, .int .i64 d.seq] 39) = w1 at *
  have q0 := hb.cell 0 _ rfl
  have q1 := hb.cell 1 _ rfl
  have q2 := hb.cell 2 _ rfl
  have hr1 := hr.ext hx1 (fun _ _ h => h)
  by_cases h1 : 1 ≤ d.seq
  · have d1 : decide (1 ≤ d.seq) = true := decT h1
    cases h2 : decide (d.seq ≤ Go.Esc.seen v d.dev d.ep) with
    | true =>
      have Hv := Lib.hid (show hasB v d = true by unfold hasB; exact decT ⟨h1, of_decide_eq_true h2⟩)
      refine wp_region_F [1, 5, 8, 10] (looks [(1, fun z => Ext no w1 z), (5, fun z => Ext no w1 z), (8, fun z => Ext no w1 z), (10, fun z => Ext no w1 z)]) (by kernel_rfl) ?_
      have hT0 : ∀ k, looks [(1, fun z => Ext no w1 z), (5, fun z => Ext no w1 z), (8, fun z => Ext no w1 z), (10, fun z => Ext no w1 z)] k (w1.drew) := looks_all ⟨Ext.drew no w1, Ext.drew no w1, Ext.drew no w1, Ext.drew no w1, trivial⟩
      refine wpF_take 0 (v := ?_) rfl (by kernel_rfl) (by kernel_rfl) (by kernel_rfl) (fun _ _ _ h => h) hT0 (by rfl) ?_ ?_
      rotate_left
      · (intro wq; go_simp; try with_reducible rfl)
      simp only [pz]
      refine wpF_look 1 (v := .int .i64 d.seq) rfl rfl (by kernel_rfl) (by kernel_rfl) (by kernel_rfl) (by kernel_rfl) (fun _ _ _ h => h) hT0 (by rfl) (fun w hS => by have hS : Ext no w1 w := hS; have q0 := hS.keeps q2 (fun h => h); go_simp) ?_
      simp only [pz]
      refine wpF_take 2 (v := .bool true) rfl (by kernel_rfl) (by kernel_rfl) (by kernel_rfl) (fun _ _ _ h => h) hT0 (by rfl) (by intro wq; go_simp; first | done | rfl) ?_
      simp only [pz]
      refine wpF_take 3 (v := ?_) rfl (by kernel_rfl) (by kernel_rfl) (by kernel_rfl) (fun _ _ _ h => h) hT0 (by rfl) ?_ ?_
      rotate_left
      · (intro wq; go_simp; try with_reducible rfl)
      simp only [pz]
      refine wpF_take 4 (v := ?_) rfl (by kernel_rfl) (by kernel_rfl) (by kernel_rfl) (fun _ _ _ h => h) hT0 (by rfl) ?_ ?_
      rotate_left
      · (intro wq; go_simp; try with_reducible rfl)
      simp only [pz]
      refine wpF_look 5 (v := .int .i64 d.seq) rfl rfl (by kernel_rfl) (by kernel_rfl) (by kernel_rfl) (by kernel_rfl) (fun _ _ _ h => h) hT0 (by rfl) (fun w hS => by have hS : Ext no w1 w := hS; have q0 := hS.keeps q2 (fun h => h); go_simp) ?_
      simp only [pz]
      refine wpF_take 6 (v := ?_) rfl (by kernel_rfl) (by kernel_rfl) (by kernel_rfl) (fun _ _ _ h => h) hT0 (by rfl) ?_ ?_
      rotate_left
      · (intro wq; go_simp; try with_reducible rfl)
      simp only [pz]
      refine wpF_take 7 (v := ?_) rfl (by kernel_rfl) (by kernel_rfl) (by kernel_rfl) (fun _ _ _ h => h) hT0 (by rfl) ?_ ?_
      rotate_left
      · (intro wq; go_simp; try with_reducible rfl)
      simp only [pz]
      refine wpF_look 8 (v := .int .i64 d.dev) rfl rfl (by kernel_rfl) (by kernel_rfl) (by kernel_rfl) (by kernel_rfl) (fun _ _ _ h => h) hT0 (by rfl) (fun w hS => by have hS : Ext no w1 w := hS; have q0 := hS.keeps q0 (fun h => h); go_simp) ?_
      simp only [pz]
      refine wpF_take 9 (v := ?_) rfl (by kernel_rfl) (by kernel_rfl) (by kernel_rfl) (fun _ _ _ h => h) hT0 (by rfl) ?_ ?_
      rotate_left
      · (intro wq; go_simp; try with_reducible rfl)
      simp only [pz]
      refine wpF_look 10 (v := .int .i64 d.ep) rfl rfl (by kernel_rfl) (by kernel_rfl) (by kernel_rfl) (by kernel_rfl) (fun _ _ _ h => h) hT0 (by rfl) (fun w hS => by have hS : Ext no w1 w := hS; have q0 := hS.keeps q1 (fun h => h); go_simp) ?_
      simp only [pz]
      refine wpF_exec 11 rfl (by kernel_rfl) (by rfl) ?_
      intro K hK
      go_simp
      refine (get_any _ va vc v d.dev d.ep (hr1.ext (Ext.drew no w1) (fun _ _ h => h)) hl ho).mono ?_
      rintro e w3 ⟨rfl, hx3⟩
      have hT1 : ∀ k, looks [(1, fun z => Ext no w1 z), (5, fun z => Ext no w1 z), (8, fun z => Ext no w1 z), (10, fun z => Ext no w1 z)] k (w3) := looks_all ⟨(Ext.drew no w1).comp hx3, (Ext.drew no w1).comp hx3, (Ext.drew no w1).comp hx3, (Ext.drew no w1).comp hx3, trivial⟩
      refine hK _ _ (looks [(1, fun z => Ext no w1 z), (5, fun z => Ext no w1 z), (8, fun z => Ext no w1 z), (10, fun z => Ext no w1 z)]) ⟨.inr (.inl (by kernel_rfl)), .inr (.inr (fun x h => h)), .inr (.inl (by kernel_rfl)), .inr (.inl (by kernel_rfl)), trivial⟩ hT1 ?_
      clear hK K
      try simp only [pz]
      replace hx3 := (Ext.drew no w1).comp hx3
      refine wpF_take 12 (v := .bool true) rfl (by kernel_rfl) (by kernel_rfl) (by kernel_rfl) (fun _ _ _ h => h) hT1 (by rfl) (by intro wq; go_simp; first | done | rfl) ?_
      simp only [pz]
      refine wpF_take 13 (v := ?_) rfl (by kernel_rfl) (by kernel_rfl) (by kernel_rfl) (fun _ _ _ h => h) hT1 (by rfl) ?_ ?_
      rotate_left
      · (intro wq; go_simp; try with_reducible rfl)
      simp only [pz]
      refine wpF_take 14 (v := ?_) rfl (by kernel_rfl) (by kernel_rfl) (by kernel_rfl) (fun _ _ _ h => h) hT1 (by rfl) ?_ ?_
      rotate_left
      · (intro wq; go_simp; try with_reducible rfl)
      simp only [pz]
      refine wpF_done (by kernel_rfl) ?_ _
      go_wp2_with fail
      go_ret
      exact ⟨by rw [Hv.out]; rfl, hx1.comp hx3⟩
    | false =>
      have Hv := Lib.hid (show hasB v d = false by unfold hasB; exact decF (fun h => of_decide_eq_false h2 h.2))
      refine wp_region_F [1, 5, 8, 10] (looks [(1, fun z => Ext no w1 z), (5, fun z => Ext no w1 z), (8, fun z => Ext no w1 z), (10, fun z => Ext no w1 z)]) (by kernel_rfl) ?_
      have hT0 : ∀ k, looks [(1, fun z => Ext no w1 z), (5, fun z => Ext no w1 z), (8, fun z => Ext no w1 z), (10, fun z => Ext no w1 z)] k (w1.drew) := looks_all ⟨Ext.drew no w1, Ext.drew no w1, Ext.drew no w1, Ext.drew no w1, trivial⟩
      refine wpF_take 0 (v := ?_) rfl (by kernel_rfl) (by kernel_rfl) (by kernel_rfl) (fun _ _ _ h => h) hT0 (by rfl) ?_ ?_
      rotate_left
      · (intro wq; go_simp; try with_reducible rfl)
      simp only [pz]
      refine wpF_look 1 (v := .int .i64 d.seq) rfl rfl (by kernel_rfl) (by kernel_rfl) (by kernel_rfl) (by kernel_rfl) (fun _ _ _ h => h) hT0 (by rfl) (fun w hS => by have hS : Ext no w1 w := hS; have q0 := hS.keeps q2 (fun h => h); go_simp) ?_
      simp only [pz]
      refine wpF_take 2 (v := .bool true) rfl (by kernel_rfl) (by kernel_rfl) (by kernel_rfl) (fun _ _ _ h => h) hT0 (by rfl) (by intro wq; go_simp; first | done | rfl) ?_
      simp only [pz]
      refine wpF_take 3 (v := ?_) rfl (by kernel_rfl) (by kernel_rfl) (by kernel_rfl) (fun _ _ _ h => h) hT0 (by rfl) ?_ ?_
      rotate_left
      · (intro wq; go_simp; try with_reducible rfl)
      simp only [pz]
      refine wpF_take 4 (v := ?_) rfl (by kernel_rfl) (by kernel_rfl) (by kernel_rfl) (fun _ _ _ h => h) hT0 (by rfl) ?_ ?_
      rotate_left
      · (intro wq; go_simp; try with_reducible rfl)
      simp only [pz]
      refine wpF_look 5 (v := .int .i64 d.seq) rfl rfl (by kernel_rfl) (by kernel_rfl) (by kernel_rfl) (by kernel_rfl) (fun _ _ _ h => h) hT0 (by rfl) (fun w hS => by have hS : Ext no w1 w := hS; have q0 := hS.keeps q2 (fun h => h); go_simp) ?_
      simp only [pz]
      refine wpF_take 6 (v := ?_) rfl (by kernel_rfl) (by kernel_rfl) (by kernel_rfl) (fun _ _ _ h => h) hT0 (by rfl) ?_ ?_
      rotate_left
      · (intro wq; go_simp; try with_reducible rfl)
      simp only [pz]
      refine wpF_take 7 (v := ?_) rfl (by kernel_rfl) (by kernel_rfl) (by kernel_rfl) (fun _ _ _ h => h) hT0 (by rfl) ?_ ?_
      rotate_left
      · (intro wq; go_simp; try with_reducible rfl)
      simp only [pz]
      refine wpF_look 8 (v := .int .i64 d.dev) rfl rfl (by kernel_rfl) (by kernel_rfl) (by kernel_rfl) (by kernel_rfl) (fun _ _ _ h => h) hT0 (by rfl) (fun w hS => by have hS : Ext no w1 w := hS; have q0 := hS.keeps q0 (fun h => h); go_simp) ?_
      simp only [pz]
      refine wpF_take 9 (v := ?_) rfl (by kernel_rfl) (by kernel_rfl) (by kernel_rfl) (fun _ _ _ h => h) hT0 (by rfl) ?_ ?_
      rotate_left
      · (intro wq; go_simp; try with_reducible rfl)
      simp only [pz]
      refine wpF_look 10 (v := .int .i64 d.ep) rfl rfl (by kernel_rfl) (by kernel_rfl) (by kernel_rfl) (by kernel_rfl) (fun _ _ _ h => h) hT0 (by rfl) (fun w hS => by have hS : Ext no w1 w := hS; have q0 := hS.keeps q1 (fun h => h); go_simp) ?_
      simp only [pz]
      refine wpF_exec 11 rfl (by kernel_rfl) (by rfl) ?_
      intro K hK
      go_simp
      refine (get_any _ va vc v d.dev d.ep (hr1.ext (Ext.drew no w1) (fun _ _ h => h)) hl ho).mono ?_
      rintro e w3 ⟨rfl, hx3⟩
      have hT1 : ∀ k, looks [(1, fun z => Ext no w1 z), (5, fun z => Ext no w1 z), (8, fun z => Ext no w1 z), (10, fun z => Ext no w1 z)] k (w3) := looks_all ⟨(Ext.drew no w1).comp hx3, (Ext.drew no w1).comp hx3, (Ext.drew no w1).comp hx3, (Ext.drew no w1).comp hx3, trivial⟩
      refine hK _ _ (looks [(1, fun z => Ext no w1 z), (5, fun z => Ext no w1 z), (8, fun z => Ext no w1 z), (10, fun z => Ext no w1 z)]) ⟨.inr (.inl (by kernel_rfl)), .inr (.inr (fun x h => h)), .inr (.inl (by kernel_rfl)), .inr (.inl (by kernel_rfl)), trivial⟩ hT1 ?_
      clear hK K
      try simp only [pz]
      replace hx3 := (Ext.drew no w1).comp hx3
      refine wpF_take 12 (v := .bool false) rfl (by kernel_rfl) (by kernel_rfl) (by kernel_rfl) (fun _ _ _ h => h) hT1 (by rfl) (by intro wq; go_simp; first | done | rfl) ?_
      simp only [pz]
      refine wpF_take 13 (v := ?_) rfl (by kernel_rfl) (by kernel_rfl) (by kernel_rfl) (fun _ _ _ h => h) hT1 (by rfl) ?_ ?_
      rotate_left
      · (intro wq; go_simp; try with_reducible rfl)
      simp only [pz]
      refine wpF_take 14 (v := ?_) rfl (by kernel_rfl) (by kernel_rfl) (by kernel_rfl) (fun _ _ _ h => h) hT1 (by rfl) ?_ ?_
      rotate_left
      · (intro wq; go_simp; try with_reducible rfl)
      simp only [pz]
      refine wpF_done (by kernel_rfl) ?_ _
      go_wp2_with fail
      go_ret
      exact ⟨by rw [Hv.out]; rfl, hx1.comp hx3⟩
  · have d1 : decide (1 ≤ d.seq) = false := decF h1
    have Hv := Lib.hid (show hasB v d = false by unfold hasB; exact decF (fun h => h1 h.1))
    refine wp_region_F [1] (looks [(1, fun z => Ext no w1 z)]) (by kernel_rfl) ?_
    have hT0 : ∀ k, looks [(1, fun z => Ext no w1 z)] k (w1.drew) := looks_all ⟨Ext.drew no w1, trivial⟩
    refine wpF_take 0 (v := ?_) rfl (by kernel_rfl) (by kernel_rfl) (by kernel_rfl) (fun _ _ _ h => h) hT0 (by rfl) ?_ ?_
    rotate_left
    · (intro wq; go_simp; try with_reducible rfl)
    simp only [pz]
    refine wpF_look 1 (v := .int .i64 d.seq) rfl rfl (by kernel_rfl) (by kernel_rfl) (by kernel_rfl) (by kernel_rfl) (fun _ _ _ h => h) hT0 (by rfl) (fun w hS => by have hS : Ext no w1 w := hS; have q0 := hS.keeps q2 (fun h => h); go_simp) ?_
    simp only [pz]
    refine wpF_take 2 (v := .bool false) rfl (by kernel_rfl) (by kernel_rfl) (by kernel_rfl) (fun _ _ _ h => h) hT0 (by rfl) (by intro wq; go_simp; first | done | rfl) ?_
    simp only [pz]
    refine wpF_take 3 (v := ?_) rfl (by kernel_rfl) (by kernel_rfl) (by kernel_rfl) (fun _ _ _ h => h) hT0 (by rfl) ?_ ?_
    rotate_left
    · (intro wq; go_simp; try with_reducible rfl)
    simp only [pz]
    refine wpF_skip 4 rfl (by kernel_rfl) (by kernel_rfl) (by kernel_rfl) (fun _ _ _ h => h) hT0 (by rfl) ?_
    simp only [pz]
    refine wpF_skip 5 rfl (by kernel_rfl) (by kernel_rfl) (by kernel_rfl) (fun _ _ _ h => h) hT0 (by rfl) ?_
    simp only [pz]
    refine wpF_skip 6 rfl (by kernel_rfl) (by kernel_rfl) (by kernel_rfl) (fun _ _ _ h => h) hT0 (by rfl) ?_
    simp only [pz]
    refine wpF_skip 7 rfl (by kernel_rfl) (by kernel_rfl) (by kernel_rfl) (fun _ _ _ h => h) hT0 (by rfl) ?_
    simp only [pz]
    refine wpF_skip 8 rfl (by kernel_rfl) (by kernel_rfl) (by kernel_rfl) (fun _ _ _ h => h) hT0 (by rfl) ?_
    simp only [pz]
    refine wpF_skip 9 rfl (by kernel_rfl) (by kernel_rfl) (by kernel_rfl) (fun _ _ _ h => h) hT0 (by rfl) ?_
    simp only [pz]
    refine wpF_skip 10 rfl (by kernel_rfl) (by kernel_rfl) (by kernel_rfl) (fun _ _ _ h => h) hT0 (by rfl) ?_
    simp only [pz]
    refine wpF_skip 11 rfl (by kernel_rfl) (by kernel_rfl) (by kernel_rfl) (fun _ _ _ h => h) hT0 (by rfl) ?_
    simp only [pz]
    refine wpF_skip 12 rfl (by kernel_rfl) (by kernel_rfl) (by kernel_rfl) (fun _ _ _ h => h) hT0 (by rfl) ?_
    simp only [pz]
    refine wpF_take 13 (v := ?_) rfl (by kernel_rfl) (by kernel_rfl) (by kernel_rfl) (fun _ _ _ h => h) hT0 (by rfl) ?_ ?_
    rotate_left
    · (intro wq; go_simp; try with_reducible rfl)
    simp only [pz]
    refine wpF_take 14 (v := ?_) rfl (by kernel_rfl) (by kernel_rfl) (by kernel_rfl) (fun _ _ _ h => h) hT0 (by rfl) ?_ ?_
    rotate_left
    · (intro wq; go_simp; try with_reducible rfl)
    simp only [pz]
    refine wpF_done (by kernel_rfl) ?_ _
    go_wp2_with fail
    go_ret
    exact ⟨by rw [Hv.out]; rfl, hx1.comp (Ext.drew no w1)⟩
set_option maxRecDepth 100000 in
set_option maxHeartbeats 2000000 in
theorem laid_any (w : World) (va : Option Addr) (vc : Nat) (v : List DotR) (d : DotR) (eb ec : Nat) (hr : Rd w va (rows DotR.cells v)) (hl : v.length ≤ 1099511627775) (ho : InOrd DotR.pair pairLt v) (he : Rd w (some ⟨eb, 0, none⟩) (DotR.cells d)) :
    Calls Tryz.prog 48 #[.slice va v.length vc, .slice (some ⟨eb, 0, none⟩) 1 ec] w fun e w' => ∃ a' c', e = .returned (.slice a' (stepV v d).length c') ∧ Own w' w.heap.size a' 3 (stepV v d).length c' (rows DotR.cells (stepV v d)) ∧ Ext no w w' := by
  obtain ⟨zs, wM, hmk, hzl, hown0, hxM⟩ := run_make_K (P := Tryz.prog) TEntry (k1 := .i64) (k2 := .i64) (n := v.length) (m := v.length + 1) w w.heap.size (Nat.le_refl _) (by omega) (by omega) (by unfold maxLen; omega)
  have hmk' : (Instr.makeSlice 25 (.int .i64 (v.length : Int)) (.int .i64 ((v.length : Int) + 1))).run Tryz.prog w = .ok (.slice (some ⟨w.heap.size, 0, none⟩) v.length (v.length + 1)) wM := hmk
  clear hmk
  obtain ⟨w2, hcp, hown2, hx2⟩ := run_copy_ownK (P := Tryz.prog) (ty := 3) TEntry hown0 (dp := some ⟨w.heap.size, 0, none⟩) (off := 0) (dLen := v.length) (dCap := v.length + 1) (xa := va) (sl := v.length) (m := v.length) (cx := vc) (ys := rows DotR.cells v)
    (Nat.min_self _) (fun _ => by rw [Nat.zero_mul]; rfl) (hr.ext hxM (fun _ _ h => h)) (rows_length kEntry v) (oneEntry v) (by omega)
  rw [Nat.zero_mul, List.take_zero, List.nil_append, Nat.zero_add, ← hzl, List.drop_length, List.append_nil] at hown2
  have hxw2 : Ext no w w2 := hxM.trans hx2 (fun k hk => by
    rintro ⟨ad', h, hb⟩
    cases h
    simp only at hb
    omega)
  have hz2 := hxw2.size
  clear hown0 hzl hxM hx2
  go_enter Tryz.func48, Tryz.ntmps48
  go_wp2_with fail
  go_loopw [5, 23] (fun s5 s23 wr => ∃ i : Nat, i ≤ 1 ∧ s23 = .int .i64 i ∧ Ext no w wr ∧ ((i = 0 ∧ ∃ b off, s5 = .slice (some ⟨b, off, none⟩) v.length (v.length + 1) ∧ Own wr w.heap.size (some ⟨b, off, none⟩) 3 v.length (v.length + 1) (rows DotR.cells v)) ∨ (i = 1 ∧ ∃ a' c', s5 = .slice a' (stepV v d).length c' ∧ Own wr w.heap.size a' 3 (stepV v d).length c' (rows DotR.cells (stepV v d))))) (fun _ s23 _ => 1 - (intOf s23).toNat)
  case atStart => exact ⟨0, by omega, rfl, hxw2, .inl ⟨rfl, _, _, rfl, hown2⟩⟩
  case round =>
    obtain ⟨i, hi1, rfl, hx, hcase⟩ := hrel
    rcases hcase with ⟨rfl, b, off, rfl, hown⟩ | ⟨rfl, a', c', rfl, hown⟩
    · have hed : Rd wr (some ⟨eb, 0, none⟩) (rows DotR.cells [d]) := by rw [rows_one]; exact he.ext hx (fun _ _ h => h)
      have q0 : wr.cell? ⟨eb, 0, none⟩ = some (.int .i64 d.dev) := rows_cell kEntry hed (n := 0) (x := d) rfl 0 _ rfl
      have q1 : wr.cell? ⟨eb, 1, none⟩ = some (.int .i64 d.ep) := rows_cell kEntry hed (n := 0) (x := d) rfl 1 _ rfl
      have q2 : wr.cell? ⟨eb, 2, none⟩ = some (.int .i64 d.seq) := rows_cell kEntry hed (n := 0) (x := d) rfl 2 _ rfl
      have hbb := (hown.base _ rfl).2.1
      simp only at hbb
      go_upto_region 6 with fail
      have hD0 := Blk.lit wr #[.int .i64 d.dev, .int .i64 d.ep, .int .i64 d.seq] 38
      have hxa := Ext.alloc no wr (.cells #[.int .i64 d.dev, .int .i64 d.ep, .int .i64 d.seq] 38)
      have hownA := hown.ext hxa (fun _ _ h => h)
      obtain ⟨gd, hgd⟩ : ∃ gd, gd = wr.heap.size := ⟨_, rfl⟩
      rw [← hgd] at hD0 hbb ⊢
      have hxA := hx.comp hxa
      clear q0 q1 q2 hed hown hx
      generalize wr.alloc (.cells #[.int .i64 d.dev, .int .i64 d.ep, .int .i64 d.seq] 38) = wa at *
      clear hgd hxa wr
      have q0 := hD0.cell 0 _ rfl
      have q1 := hD0.cell 1 _ rfl
      have q2 := hD0.cell 2 _ rfl
      go_wp2_with fail
      refine (of_any wa d).mono ?_
      rintro e w3 ⟨rfl, hx3⟩
      have hown3 := hownA.ext hx3 (fun _ _ h => h)
      go_wp2_with fail
      refine (at_any w3 (some ⟨b, off, none⟩) (v.length + 1) v d.pair hown3.rd (by omega) ho).mono ?_
      rintro e w4 ⟨rfl, hx4⟩
      have hx34 := hx3.comp hx4
      have hown4 := hownA.ext hx34 (fun _ _ h => h)
      have hD4 := hD0.ext (by simp) hx34 (fun h => h)
      have hxx := hxA.comp hx34
      have hz34 := hx34.size
      clear q0 q1 q2 hownA hD0 hown3 hx3 hx4 hxA
      have hlk := look_at pairOrd d.pair v ho
      have hple := posOf_le (κ := DotR.pair) (lt := pairLt) d.pair v
      cases his : isAt DotR.pair pairLt d.pair v with
      | true =>
        obtain ⟨x, hx, hxk⟩ := isAt_some his
        rw [his, if_pos rfl, hx] at hlk
        generalize hpp : posOf DotR.pair pairLt d.pair v = pp at *
        have hst : stepV v d = v.set pp ⟨d.dev, d.ep, max x.seq d.seq⟩ := by
          unfold stepV
          rw [if_pos his, hpp]
          have : Go.Esc.seen v d.dev d.ep = x.seq := by
            unfold Go.Esc.seen
            rw [show Go.Esc.look DotR.pair (d.dev, d.ep) v = some x from hlk]
          rw [this]
        have Hst := Lib.hid hst
        have hxd : x.dev = d.dev ∧ x.ep = d.ep := by
          have e : (x.dev, x.ep) = (d.dev, d.ep) := hxk
          simpa using e
        clear hst hlk his hpp hxk
        have hpl : pp < v.length := (List.getElem?_eq_some_iff.1 hx).1
        have y2 : w4.cell? ⟨b, off + pp * 3 + 2, none⟩ = some (.int .i64 x.seq) := rows_cell kEntry hown4.rd hx 2 _ rfl
        have fy : w4.frozen? ⟨b, off + pp * 3 + 2, none⟩ = false := hown4.free pp 2 hpl (by omega)
        have q2 := hD4.cell 2 _ rfl
        have HX := Lib.hid hx
        have HXD := Lib.hid hxd
        clear hx hxd
        go_upto_region 8 with fail
        refine wp_region_F [6, 8] (looks [(6, fun z => Ext no w4 z), (8, fun z => Ext no w4 z)]) (by kernel_rfl) ?_
        have hT0 : ∀ k, looks [(6, fun z => Ext no w4 z), (8, fun z => Ext no w4 z)] k (w4.drew) := looks_all ⟨Ext.drew no w4, Ext.drew no w4, trivial⟩
        refine wpF_take 0 (v := ?_) rfl (by kernel_rfl) (by kernel_rfl) (by kernel_rfl) (fun _ _ _ h => h) hT0 (by rfl) ?_ ?_
        rotate_left
        · (intro wq; go_simp; try with_reducible rfl)
        simp only [pz]
        refine wpF_take 1 (v := ?_) rfl (by kernel_rfl) (by kernel_rfl) (by kernel_rfl) (fun _ _ _ h => h) hT0 (by rfl) ?_ ?_
        rotate_left
        · (intro wq; go_simp; try with_reducible rfl)
        simp only [pz]
        refine wpF_take 2 (v := ?_) rfl (by kernel_rfl) (by kernel_rfl) (by kernel_rfl) (fun _ _ _ h => h) hT0 (by rfl) ?_ ?_
        rotate_left
        · (intro wq; go_simp; try with_reducible rfl)
        simp only [pz]
        refine wpF_take 3 (v := ?_) rfl (by kernel_rfl) (by kernel_rfl) (by kernel_rfl) (fun _ _ _ h => h) hT0 (by rfl) ?_ ?_
        rotate_left
        · (intro wq; go_simp; try with_reducible rfl)
        simp only [pz]
        refine wpF_take 4 (v := .pointer (some ⟨b, off + pp * 3, none⟩)) rfl (by kernel_rfl) (by kernel_rfl) (by kernel_rfl) (fun _ _ _ h => h) hT0 (by rfl) (by intro wq; go_simp) ?_
        simp only [pz]
        refine wpF_take 5 (v := ?_) rfl (by kernel_rfl) (by kernel_rfl) (by kernel_rfl) (fun _ _ _ h => h) hT0 (by rfl) ?_ ?_
        rotate_left
        · (intro wq; go_simp; try with_reducible rfl)
        simp only [pz]
        refine wpF_look 6 (v := .int .i64 x.seq) rfl rfl (by kernel_rfl) (by kernel_rfl) (by kernel_rfl) (by kernel_rfl) (fun _ _ _ h => h) hT0 (by rfl) (fun w hS => by have hS : Ext no w4 w := hS; have q0 := hS.keeps y2 (fun h => h); go_simp) ?_
        simp only [pz]
        refine wpF_take 7 (v := ?_) rfl (by kernel_rfl) (by kernel_rfl) (by kernel_rfl) (fun _ _ _ h => h) hT0 (by rfl) ?_ ?_
        rotate_left
        · (intro wq; go_simp; try with_reducible rfl)
        simp only [pz]
        refine wpF_look 8 (v := .int .i64 d.seq) rfl rfl (by kernel_rfl) (by kernel_rfl) (by kernel_rfl) (by kernel_rfl) (fun _ _ _ h => h) hT0 (by rfl) (fun w hS => by have hS : Ext no w4 w := hS; have q0 := hS.keeps q2 (fun h => h); go_simp) ?_
        simp only [pz]
        refine wpF_take 9 (v := .int .i64 (max x.seq d.seq)) rfl (by kernel_rfl) (by kernel_rfl) (by kernel_rfl) (fun _ _ _ h => h) hT0 (by rfl) (by intro wq; go_simp; first | done | rfl | (split <;> congr 1 <;> omega) | omega) ?_
        simp only [pz]
        refine wpF_take 10 (v := .pointer (some ⟨b, off + pp * 3, none⟩)) rfl (by kernel_rfl) (by kernel_rfl) (by kernel_rfl) (fun _ _ _ h => h) hT0 (by rfl) (by intro wq; go_simp) ?_
        simp only [pz]
        refine wpF_take 11 (v := ?_) rfl (by kernel_rfl) (by kernel_rfl) (by kernel_rfl) (fun _ _ _ h => h) hT0 (by rfl) ?_ ?_
        rotate_left
        · (intro wq; go_simp; try with_reducible rfl)
        simp only [pz]
        refine wpF_exec 12 rfl (by kernel_rfl) (by rfl) ?_
        intro K hK
        go_simp
        have hT1 : ∀ k, looks [(6, fun z => True), (8, fun z => True)] k ((w4.setCell ⟨b, off + pp * 3 + 2, none⟩ (.int .i64 (max x.seq d.seq))).drew) := looks_all ⟨trivial, trivial, trivial⟩
        refine hK _ _ (looks [(6, fun z => True), (8, fun z => True)]) ⟨.inr (.inl (by kernel_rfl)), .inr (.inl (by kernel_rfl)), trivial⟩ hT1 ?_
        clear hK K
        try simp only [pz]
        refine wpF_done (by kernel_rfl) ?_ _
        have hset := hown4.set (pp * 3 + 2) (by have := Nat.mul_le_mul_right 3 hpl; omega) (.int .i64 (max x.seq d.seq))
        rw [rows_setcell kEntry v pp x ⟨d.dev, d.ep, max x.seq d.seq⟩ HX.out 2 _ (by omega) (by rw [← HXD.out.1, ← HXD.out.2]; rfl), Addr.add_lit, show off + (pp * 3 + 2) = off + pp * 3 + 2 by omega] at hset
        have hxs : Ext (blk (some ⟨b, off, none⟩)) w4 (w4.setCell ⟨b, off + pp * 3 + 2, none⟩ (.int .i64 (max x.seq d.seq))) := Ext.setCell _ _ _ ⟨_, rfl, rfl⟩
        have hx5 : Ext no w (w4.setCell ⟨b, off + pp * 3 + 2, none⟩ (.int .i64 (max x.seq d.seq))) := hxx.trans hxs (fun k hk => by rintro ⟨ad', h, hb⟩; cases h; have := hown4.base _ rfl; simp only at this hb; omega)
        have hown5 := hset.drew
        have hx6 := hx5.comp (Ext.drew no _)
        clear y2 fy q2 hset hxs
        generalize (w4.setCell ⟨b, off + pp * 3 + 2, none⟩ (.int .i64 (max x.seq d.seq))).drew = w6 at *
        go_wp2_with fail
        go_roundw
        case rel => exact ⟨1, by omega, by go_num, hx6, .inr ⟨rfl, some ⟨b, off, none⟩, v.length + 1, by rw [Hst.out, List.length_set], by rw [Hst.out, List.length_set]; exact hown5⟩⟩
        case measure => simp [intOf]
      | false =>
        have hst : stepV v d = putAt (posOf DotR.pair pairLt d.pair v) d v := by unfold stepV; rw [if_neg (by rw [his]; simp)]
        have Hst := Lib.hid hst
        clear hst hlk his
        generalize posOf DotR.pair pairLt d.pair v = pp at *
        go_upto_region 9 with fail
        have hxa := Ext.alloc no w4 (.cells #[.int .i64 0, .int .i64 0, .int .i64 0] 38)
        go_wp2_with (at_builtin; refine wpList_append TEntry rfl rfl rfl (hown4.alloc _) rfl (Rd.lit w4 #[.int .i64 0, .int .i64 0, .int .i64 0] 38 (0, 0)) (m := 1) rfl (one1Entry ⟨0, 0, 0⟩) (by unfold maxLen; omega) (by omega) (by simp; have := hxx.size; omega) ?_)
        intro a' c' w5 happ
        have hown5 := happ.own
        have hx5 : Ext no w w5 := (hxx.comp hxa).trans happ.ext (fun k hk => by rintro ⟨ad', h, hb⟩; cases h; have := hown4.base _ rfl; simp only at this hb; omega)
        have hz5 := happ.ext.size
        have hD5 := (hD4.ext (by simp) hxa (fun h => h)).ext (by simp) happ.ext (by rintro ⟨ad', h, hb⟩; cases h; simp only at hb; omega)
        have hloc := happ.loc
        clear happ
        have hc'1 := hown5.nc
        have hcm := hown5.cm
        unfold maxLen at hcm
        obtain ⟨b2, o2, rfl⟩ := hown5.lits (by omega)
        have hne2 : b2 ≠ gd := by
          rcases hloc with ⟨h, _⟩ | h
          · cases h; omega
          · have := h _ rfl
            have h2 := hD4.lt (by simp)
            simp at this
            omega
        clear hloc hD4
        have hcn : ∀ w, (Instr.sliceAt 25 (.slice (some ⟨b2, o2, none⟩) (v.length + 1) c') (some (.int .i64 (pp : Int))) none none).run Tryz.prog w = .ok (.slice (some ⟨b2, o2 + pp * 3, none⟩) (v.length + 1 - pp) (c' - pp)) w := fun w => by rw [run_cut_l TEntry w _ _ c' .i64 pp (by omega), cutAt_some (by omega), Addr.add_lit]
        have hcm1 : ∀ w, (Instr.sliceAt 25 (.slice (some ⟨b2, o2, none⟩) (v.length + 1) c') (some (.int .i64 ((pp : Int) + 1))) none none).run Tryz.prog w = .ok (.slice (cutAt (some ⟨b2, o2, none⟩) c' (pp + 1) 3) (v.length - pp) (c' - (pp + 1))) w := fun w => by have := run_cut_l (P := Tryz.prog) TEntry w (some ⟨b2, o2, none⟩) (v.length + 1) c' .i64 (pp + 1) (by omega); rw [show v.length + 1 - (pp + 1) = v.length - pp by omega] at this; exact this
        obtain ⟨w6, hrun, hown6, hx6⟩ := run_copy_ownK (P := Tryz.prog) (ty := 3) TEntry hown5.drew (dp := cutAt (some ⟨b2, o2, none⟩) c' (pp + 1) 3) (off := pp + 1) (dLen := v.length - pp) (dCap := c' - (pp + 1)) (xa := some ⟨b2, o2 + pp * 3, none⟩) (sl := v.length + 1 - pp) (m := v.length - pp) (cx := c' - pp) (ys := (rows DotR.cells v).drop (pp * 3))
          (Nat.min_eq_right (by omega)) (fun _ => cutAt_some (by omega)) (by have q := (hown5.front v.length (by omega)).rd.drew.drop (pp * 3); rw [List.take_left' (rows_length kEntry v), Option.map_some, Addr.add_lit] at q; exact q) (by rw [List.length_drop, rows_length kEntry, Nat.mul_sub_right_distrib]) (fun u hu => oneEntry v u (List.mem_of_mem_drop hu)) (by omega)
        go_upto_region 10 with fail
        refine wp_region_F [] (looks []) (by kernel_rfl) ?_
        have hT0 : ∀ k, looks [] k (w5.drew) := looks_all trivial
        refine wpF_take 0 (v := ?_) rfl (by kernel_rfl) (by kernel_rfl) (by kernel_rfl) (fun _ _ _ h => h) hT0 (by rfl) ?_ ?_
        rotate_left
        · (intro wq; go_simp; try with_reducible rfl)
        simp only [pz]
        refine wpF_take 1 (v := ?_) rfl (by kernel_rfl) (by kernel_rfl) (by kernel_rfl) (fun _ _ _ h => h) hT0 (by rfl) ?_ ?_
        rotate_left
        · (intro wq; go_simp; try with_reducible rfl)
        simp only [pz]
        refine wpF_take 2 (v := .int .i64 ((pp : Int) + 1)) rfl (by kernel_rfl) (by kernel_rfl) (by kernel_rfl) (fun _ _ _ h => h) hT0 (by rfl) (by intro wq; go_simp; rw [IntKind.wrap_i64]; omega) ?_
        simp only [pz]
        refine wpF_take 3 (v := .slice (cutAt (some ⟨b2, o2, none⟩) c' (pp + 1) 3) (v.length - pp) (c' - (pp + 1))) rfl (by kernel_rfl) (by kernel_rfl) (by kernel_rfl) (fun _ _ _ h => h) hT0 (by rfl) (by intro wq; go_simp) ?_
        simp only [pz]
        refine wpF_take 4 (v := ?_) rfl (by kernel_rfl) (by kernel_rfl) (by kernel_rfl) (fun _ _ _ h => h) hT0 (by rfl) ?_ ?_
        rotate_left
        · (intro wq; go_simp; try with_reducible rfl)
        simp only [pz]
        refine wpF_take 5 (v := ?_) rfl (by kernel_rfl) (by kernel_rfl) (by kernel_rfl) (fun _ _ _ h => h) hT0 (by rfl) ?_ ?_
        rotate_left
        · (intro wq; go_simp; try with_reducible rfl)
        simp only [pz]
        refine wpF_take 6 (v := .slice (some ⟨b2, o2 + pp * 3, none⟩) (v.length + 1 - pp) (c' - pp)) rfl (by kernel_rfl) (by kernel_rfl) (by kernel_rfl) (fun _ _ _ h => h) hT0 (by rfl) (by intro wq; go_simp) ?_
        simp only [pz]
        refine wpF_exec 7 rfl (by kernel_rfl) (by rfl) ?_
        intro K hK
        go_simp
        have hT1 : ∀ k, looks [] k (w6) := looks_all trivial
        refine hK _ _ (looks []) trivial hT1 ?_
        clear hK K
        try simp only [pz]
        refine wpF_done (by kernel_rfl) ?_ _
        have hD6 := (hD5.drew).ext (by simp) hx6 (by rintro ⟨ad', h, hb⟩; cases h; exact hne2 hb)
        have q0 := hD6.cell 0 _ rfl
        have q1 := hD6.cell 1 _ rfl
        have q2 := hD6.cell 2 _ rfl
        obtain ⟨_, e0, hs0, ff0⟩ := hown6.can (pp * 3) (by have := Nat.mul_le_mul_right 3 hple; omega)
        cases e0
        obtain ⟨v0, y0⟩ := Option.isSome_iff_exists.1 hs0
        rw [Addr.add_lit] at y0 ff0
        clear hs0
        obtain ⟨_, e1, hs1, ff1⟩ := hown6.can (pp * 3 + 1) (by have := Nat.mul_le_mul_right 3 hple; omega)
        cases e1
        obtain ⟨v1, y1⟩ := Option.isSome_iff_exists.1 hs1
        rw [Addr.add_lit, ← Nat.add_assoc] at y1 ff1
        clear hs1
        obtain ⟨_, e2, hs2, ff2⟩ := hown6.can (pp * 3 + 2) (by have := Nat.mul_le_mul_right 3 hple; omega)
        cases e2
        obtain ⟨v2, y2⟩ := Option.isSome_iff_exists.1 hs2
        rw [Addr.add_lit, ← Nat.add_assoc] at y2 ff2
        clear hs2
        go_upto_region 12 with fail
        have hov : Own (((w6.setCell ⟨b2, o2 + pp * 3, none⟩ (.int .i64 d.dev)).setCell ⟨b2, o2 + pp * 3 + 1, none⟩ (.int .i64 d.ep)).setCell ⟨b2, o2 + pp * 3 + 2, none⟩ (.int .i64 d.seq)) w.heap.size (some ⟨b2, o2, none⟩) 3 (v.length + 1) c' (rows DotR.cells (putAt pp d v)) := by
          have q := Own.setCellsK (DotR.cells d) (pp * 3) w6 _ hown6 (by have := Nat.mul_le_mul_right 3 hple; simp only [DotR.cells, List.length_cons, List.length_nil]; omega)
          rw [show pp * 3 + (DotR.cells d).length = (pp + 1) * 3 by rw [Nat.add_mul]; rfl] at q
          rw [ins_place' kEntry v pp d hple _ rfl] at q
          simp only [DotR.cells, World.setCells] at q
          exact q
        have hxs : Ext (blk (some ⟨b2, o2, none⟩)) w5 (((w6.setCell ⟨b2, o2 + pp * 3, none⟩ (.int .i64 d.dev)).setCell ⟨b2, o2 + pp * 3 + 1, none⟩ (.int .i64 d.ep)).setCell ⟨b2, o2 + pp * 3 + 2, none⟩ (.int .i64 d.seq)) := ((Ext.drew _ w5).comp hx6).comp (((Ext.setCell _ _ _ ⟨_, rfl, rfl⟩).comp (Ext.setCell _ _ _ ⟨_, rfl, rfl⟩)).comp (Ext.setCell _ _ _ ⟨_, rfl, rfl⟩))
        have hx7 : Ext no w (((w6.setCell ⟨b2, o2 + pp * 3, none⟩ (.int .i64 d.dev)).setCell ⟨b2, o2 + pp * 3 + 1, none⟩ (.int .i64 d.ep)).setCell ⟨b2, o2 + pp * 3 + 2, none⟩ (.int .i64 d.seq)) := hx5.trans hxs (fun k hk => by rintro ⟨ad', h, hb⟩; cases h; have := hown5.base _ rfl; simp only at this hb; omega)
        clear q0 q1 q2 y0 y1 y2 ff0 ff1 ff2 hxs hown6 hx6
        generalize ((w6.setCell ⟨b2, o2 + pp * 3, none⟩ (.int .i64 d.dev)).setCell ⟨b2, o2 + pp * 3 + 1, none⟩ (.int .i64 d.ep)).setCell ⟨b2, o2 + pp * 3 + 2, none⟩ (.int .i64 d.seq) = w7 at *
        go_wp2_with fail
        go_roundw
        case rel => exact ⟨1, by omega, by go_num, hx7, .inr ⟨rfl, some ⟨b2, o2, none⟩, c', by rw [Hst.out, putAt_length], by rw [Hst.out, putAt_length]; exact hov⟩⟩
        case measure => simp [intOf]
    · go_upto_region 13 with fail
      have hnl := hown.nc
      have hcm := hown.cm
      unfold maxLen at hcm
      have hsl := stepV_len v d
      go_wp2_with (at_builtin; refine wpList_append TEntry rfl rfl rfl (Own.nil _ w.heap.size _) rfl hown.rd (rows_length kEntry _) (oneEntry _) (by unfold maxLen; omega) (by omega) hx.size ?_)
      intro a'' c'' w9 happ
      have hown9 := happ.own
      have hext9 := happ.ext
      rw [Nat.zero_add, List.nil_append] at hown9
      go_wp2_with fail
      go_ret
      exact ⟨a'', c'', rfl, hown9, hx.comp (hext9.mono (fun k _ h => by obtain ⟨ad, h, _⟩ := h; cases h))⟩
set_option maxRecDepth 100000 in
set_option maxHeartbeats 2000000 in
theorem step_any (w : World) (va : Option Addr) (vc : Nat) (v : List DotR) (d : DotR) (hr : Rd w va (rows DotR.cells v)) (hl : v.length ≤ 1099511627775) (ho : InOrd DotR.pair pairLt v) :
    Calls Tryz.prog 22 #[.slice va v.length vc, .agg #[.int .i64 d.dev, .int .i64 d.ep, .int .i64 d.seq]] w fun e w' => ∃ a' n' c', e = .returned (.tuple #[.slice a' n' c', .int .i64 (stepErr v d)]) ∧ (stepErr v d = 0 → n' = (stepV v d).length ∧ Own w' w.heap.size a' 3 n' c' (rows DotR.cells (stepV v d))) ∧ Ext no w w' := by
  obtain ⟨S, hS⟩ : ∃ S, S = stepErr v d := ⟨_, rfl⟩
  rw [← hS]
  have HS := Lib.hid hS
  clear hS
  go_enter Tryz.func22, Tryz.ntmps22
  go_upto_region 1 with fail
  have hb := Blk.lit w #[.int .i64 d.dev, .int .i64 d.ep, .int .i64 d.seq] 39
  have hx1 := Ext.alloc no w (.cells #[.int .i64 d.dev, .int .i64 d.ep, .int .i64 d.seq] 39)
  generalize w.alloc (.cells #[.int .i64 d.dev, .int .i64 d.ep, .int .i64 d.seq] 39) = w1 at *
  have q0 := hb.cell 0 _ rfl
  have q1 := hb.cell 1 _ rfl
  have q2 := hb.cell 2 _ rfl
  have hr1 := hr.ext hx1 (fun _ _ h => h)
  by_cases b1 : d.dev < 0
  · have t1 : decide (d.dev < 0) = true := decT b1
    have Hs := Lib.hid (show S = 1 by rw [HS.out]; unfold stepErr; rw [if_pos (.inl b1)])
    clear b1
    go_wp2_with fail
    go_ret2
    exact ⟨none, 0, 0, by rw [Hs.out]; rfl, (fun h => by rw [Hs.out] at h; cases h), hx1⟩
  have t1 : decide (d.dev < 0) = false := decF b1
  by_cases b2 : d.ep < 0
  · have t2 : decide (d.ep < 0) = true := decT b2
    have Hs := Lib.hid (show S = 1 by rw [HS.out]; unfold stepErr; rw [if_pos (.inr (.inl b2))])
    clear b1 b2
    go_wp2_with fail
    go_ret2
    exact ⟨none, 0, 0, by rw [Hs.out]; rfl, (fun h => by rw [Hs.out] at h; cases h), hx1⟩
  have t2 : decide (d.ep < 0) = false := decF b2
  by_cases b3 : d.seq < 1
  · have t3 : decide (d.seq < 1) = true := decT b3
    have Hs := Lib.hid (show S = 1 by rw [HS.out]; unfold stepErr; rw [if_pos (.inr (.inr b3))])
    clear b1 b2 b3
    go_wp2_with fail
    go_ret2
    exact ⟨none, 0, 0, by rw [Hs.out]; rfl, (fun h => by rw [Hs.out] at h; cases h), hx1⟩
  have t3 : decide (d.seq < 1) = false := decF b3
  go_upto_region 3 with fail
  go_wp2_with fail
  refine (has_any w1 va vc v d hr1 (by omega) ho).mono ?_
  rintro e w2 ⟨rfl, hx2⟩
  have hxx := hx1.comp hx2
  have hr2 := hr1.ext hx2 (fun _ _ h => h)
  have hb2 := hb.ext (by simp) hx2 (fun h => h)
  clear q0 q1 q2
  cases hh : hasB v d with
  | true =>
    have h2 : d.seq ≤ Go.Esc.seen v d.dev d.ep := (of_decide_eq_true hh).2
    have Hs := Lib.hid (show S = 7 by rw [HS.out]; unfold stepErr; rw [if_neg (by omega), if_pos h2])
    clear b1 b2 b3 h2 hh
    go_wp2_with fail
    go_ret2
    exact ⟨none, 0, 0, by rw [Hs.out]; rfl, (fun h => by rw [Hs.out] at h; cases h), hxx⟩
  | false =>
    have h2 : ¬ d.seq ≤ Go.Esc.seen v d.dev d.ep := fun h => of_decide_eq_false hh ⟨by omega, h⟩
    have Hs := Lib.hid (show S = 0 by rw [HS.out]; unfold stepErr; rw [if_neg (by omega), if_neg h2])
    clear b1 b2 b3 h2 hh t1 t2 t3
    have q0 := hb2.cell 0 _ rfl
    have q1 := hb2.cell 1 _ rfl
    have q2 := hb2.cell 2 _ rfl
    go_wp2_with fail
    have hxa := Ext.alloc no w2 (.cells #[.int .i64 d.dev, .int .i64 d.ep, .int .i64 d.seq] 38)
    refine (laid_any _ va vc v d w2.heap.size 1 (hr2.ext hxa (fun _ _ h => h)) hl ho (Rd.lit w2 #[.int .i64 d.dev, .int .i64 d.ep, .int .i64 d.seq] 38 (0, 0))).mono ?_
    rintro e w3 ⟨a', c', rfl, hown, hx3⟩
    go_wp2_with fail
    go_ret2
    exact ⟨a', _, c', by rw [Hs.out]; rfl, fun _ => ⟨rfl, hown.mono (by have := (hxx.comp hxa).size; exact this)⟩, (hxx.comp hxa).comp hx3⟩
end Go.Proofs.YtejmmkjpncpedaaGreat
