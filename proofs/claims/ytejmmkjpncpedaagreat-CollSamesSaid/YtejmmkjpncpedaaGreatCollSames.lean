/- The walk of CollSames. -/
import Derived.Test.YtejmmkjpncpedaaGreatCoY
import Derived.Test.YtejmmkjpncpedaaGreatCoZ
import Derived.Test.YtejmmkjpncpedaaGreatCo2
import Derived.Test.YtejmmkjpncpedaaGreatCo3
import Derived.Test.YtejmmkjpncpedaaGreatCrE
namespace Go.Proofs.YtejmmkjpncpedaaGreat
open Go.RowKit Go.Esc
set_option linter.unusedVariables false
set_option linter.unusedSimpArgs false
theorem wrap_ne (s : Int) : Go.Esc.wrap64 (s + 1) ≠ s := by
  unfold Go.Esc.wrap64
  rw [IntKind.wrap_i64]
  omega
set_option maxRecDepth 100000 in
set_option maxHeartbeats 16000000 in
theorem csames_walk (w : World) (a : Option Addr) (l : List OpW) (c : Nat) (wh pt : Int) (hr : Rd w a (rows OpW.cells l)) (hg : ∀ x ∈ l, x.good w) (hlc : l.length ≤ c) (hcm : c ≤ maxLen) (hwh : I64ok wh) (hpt : I64ok pt) :
    Calls Tryz.prog 3 #[.slice a l.length c, .int .i64 wh, .int .i64 pt] w fun e w' => e = .returned (.bool true) ∧ Ext no w w' := by
  have Hg := Lib.hid hg
  clear hg
  go_enter Tryz.func3, Tryz.ntmps3
  go_wp2_with fail
  refine (known_any w).mono ?_
  rintro e w0 ⟨rfl, hx0⟩
  go_wp2_with fail
  refine (cofew_any w0 a l c (hr.ext hx0 (fun _ _ h => h)) (fun x hx => (Hg.out x hx).no hx0) hlc hcm).mono ?_
  rintro e w1 ⟨rfl, hx1⟩
  have hW := hx0.comp hx1
  clear hx0 hx1
  cases hfw : (l.all (fun x => fewB x.o) && decide (l.length ≤ 60)) with
  | false =>
    clear hfw
    go_wp2_with fail
    go_ret
    exact ⟨rfl, hW⟩
  | true =>
    have hl60 : l.length ≤ 60 := by
      rw [Bool.and_eq_true, decide_eq_true_iff] at hfw
      exact hfw.2
    clear hfw
    obtain ⟨C, hC⟩ : ∃ C, C = refFold (rowL z6 (l.map OpW.o)) := ⟨_, rfl⟩
    have HC := Lib.hid hC
    clear hC
    have hSh : ∀ g : List OpW, g.map OpW.o = rowL z6 (l.map OpW.o) → g.length ≤ 60 ∧ ∀ x ∈ g, x.o.dots.length ≤ 1099511627776 := by
      intro g hgm
      refine ⟨?_, ?_⟩
      · have := congrArg List.length hgm
        rw [List.length_map, rowL_length, List.length_map] at this
        omega
      · intro x hx
        have : x.o ∈ rowL z6 (l.map OpW.o) := by rw [← hgm]; exact List.mem_map_of_mem hx
        obtain ⟨o, _, m, e⟩ := row_mem _ _ _ this
        have h8 := (row_short o m).dots
        rw [← e] at h8
        omega
    go_wp2_with fail
    refine (row_any w1 a l c (hr.no hW) (fun x hx => (Hg.out x hx).no hW) hl60).mono ?_
    rintro e w2 ⟨g, ga, gc, rfl, hgo, hgm, hgg, _, hxr⟩
    obtain ⟨hg60, hg8⟩ := hSh g hgm
    have Hgm := Lib.hid hgm
    have Hgg := Lib.hid hgg
    have Hg8 := Lib.hid hg8
    clear hgm hgg hg8
    have hgr := hgo.rd
    have hgl := hgo.nc
    have hgcm := hgo.cm
    clear hgo
    go_wp2_with fail
    refine (fold_any w2 ga g gc hgr Hgg.out Hg8.out hg60).mono ?_
    rw [Hgm.out, ← HC.out]
    rintro e w3 ⟨ha, rfl, hm, hsm, hxf⟩
    unfold CollR.val
    replace hW := (hW.comp hxr).comp hxf
    clear hxr hxf Hgm Hgg Hg8 hgr hgl hgcm hg60
    go_upto_region 6 with fail
    have hA := Blk.lit w3 #[.slice ha.v C.v.length ha.vc, .slice ha.r C.regs.length ha.rc, .slice ha.e C.elems.length ha.ec, .slice ha.g C.gone.length ha.gc, .slice ha.s C.sums.length ha.sc, .slice ha.b C.binds.length ha.bc] 32
    have hxa := Ext.alloc no w3 (.cells #[.slice ha.v C.v.length ha.vc, .slice ha.r C.regs.length ha.rc, .slice ha.e C.elems.length ha.ec, .slice ha.g C.gone.length ha.gc, .slice ha.s C.sums.length ha.sc, .slice ha.b C.binds.length ha.bc] 32)
    have hmA := hm.no hxa
    have hAl := hA.lt (by simp)
    have hAh : ∀ i ad, ha.at i = some ad → ad.block < w3.heap.size := fun i ad hi => (hm.base i ad hi).2
    replace hW := hW.comp hxa
    generalize w3.alloc (.cells #[.slice ha.v C.v.length ha.vc, .slice ha.r C.regs.length ha.rc, .slice ha.e C.elems.length ha.ec, .slice ha.g C.gone.length ha.gc, .slice ha.s C.sums.length ha.sc, .slice ha.b C.binds.length ha.bc] 32) = w4 at *
    obtain ⟨gA, hgA⟩ : ∃ gA, gA = w3.heap.size := ⟨_, rfl⟩
    rw [← hgA] at hA hAl hAh ⊢
    clear hgA hm hxa
    go_wp2_with fail
    refine (row_any w4 a l c (hr.no hW) (fun x hx => (Hg.out x hx).no hW) hl60).mono ?_
    rintro e w5 ⟨g, ga, gc, rfl, hgo, hgm, hgg, _, hxr⟩
    obtain ⟨hg60, hg8⟩ := hSh g hgm
    have Hgm := Lib.hid hgm
    have Hgg := Lib.hid hgg
    have Hg8 := Lib.hid hg8
    clear hgm hgg hg8
    have hgr := hgo.rd
    have hgl := hgo.nc
    have hgcm := hgo.cm
    clear hgo
    go_wp2_with fail
    refine (fold_any w5 ga g gc hgr Hgg.out Hg8.out hg60).mono ?_
    rw [Hgm.out, ← HC.out]
    rintro e w6 ⟨hb, rfl, hm, hsm, hxf⟩
    unfold CollR.val
    replace hA := (hA.ext (by simp) hxr (fun h => h)).ext (by simp) hxf (fun h => h)
    replace hmA := (hmA.no hxr).no hxf
    have hgB5 := Nat.lt_of_lt_of_le hAl hxr.size
    have hW5 := (hW.comp hxr).size
    have hW6 := hxf.size
    replace hW := (hW.comp hxr).comp hxf
    clear hxr hxf Hgm Hgg Hg8 hgr hgl hgcm hg60
    have Hsm := Lib.hid hsm
    go_upto_region 7 with fail
    have hB := Blk.lit w6 #[.slice hb.v C.v.length hb.vc, .slice hb.r C.regs.length hb.rc, .slice hb.e C.elems.length hb.ec, .slice hb.g C.gone.length hb.gc, .slice hb.s C.sums.length hb.sc, .slice hb.b C.binds.length hb.bc] 32
    have hxa := Ext.alloc no w6 (.cells #[.slice hb.v C.v.length hb.vc, .slice hb.r C.regs.length hb.rc, .slice hb.e C.elems.length hb.ec, .slice hb.g C.gone.length hb.gc, .slice hb.s C.sums.length hb.sc, .slice hb.b C.binds.length hb.bc] 32)
    replace hA := hA.ext (by simp) hxa (fun h => h)
    replace hmA := hmA.no hxa
    have hmB := hm.no hxa
    have hBh : ∀ i ad, hb.at i = some ad → w5.heap.size ≤ ad.block ∧ ad.block < w6.heap.size := fun i ad hi => hm.base i ad hi
    replace hW := hW.comp hxa
    have hBl := hB.lt (by simp)
    generalize w6.alloc (.cells #[.slice hb.v C.v.length hb.vc, .slice hb.r C.regs.length hb.rc, .slice hb.e C.elems.length hb.ec, .slice hb.g C.gone.length hb.gc, .slice hb.s C.sums.length hb.sc, .slice hb.b C.binds.length hb.bc] 32) = w7 at *
    obtain ⟨gB, hgB⟩ : ∃ gB, gB = w6.heap.size := ⟨_, rfl⟩
    obtain ⟨B5, hB5⟩ : ∃ B5, B5 = w5.heap.size := ⟨_, rfl⟩
    have hAB : gA < gB := by omega
    have hAB5 : gA < B5 := by omega
    have hwB5 : w.heap.size ≤ B5 := by omega
    have hB5g : B5 ≤ gB := by omega
    rw [← hgB] at hB hBl hBh ⊢
    rw [← hB5] at hBh hmB
    clear hgB hB5 hm hxa hW5 hW6 hgB5 hsm
    have hsC : C.small 1099511627776 := ⟨by have := Hsm.out.v; omega, by have := Hsm.out.r; omega, by have := Hsm.out.e; omega, by have := Hsm.out.g; omega, by have := Hsm.out.s; omega, by have := Hsm.out.b; omega⟩
    have a0 := hA.cell 0 _ rfl
    have a1 := hA.cell 1 _ rfl
    have a2 := hA.cell 2 _ rfl
    have a3 := hA.cell 3 _ rfl
    have a4 := hA.cell 4 _ rfl
    have a5 := hA.cell 5 _ rfl
    have b0 := hB.cell 0 _ rfl
    have b1 := hB.cell 1 _ rfl
    have b2 := hB.cell 2 _ rfl
    have b3 := hB.cell 3 _ rfl
    have b4 := hB.cell 4 _ rfl
    have b5 := hB.cell 5 _ rfl
    go_wp2_with fail
    refine (same_any w7 C C ha hb hmA.isIn hmB.isIn hsC hsC).mono ?_
    rintro e w8 ⟨r, rfl, hrr, hx8⟩
    obtain rfl : r = true := hrr.2 rfl
    clear hrr a0 a1 a2 a3 a4 a5 b0 b1 b2 b3 b4 b5
    replace hW := hW.comp hx8
    replace hA := hA.ext (by simp) hx8 (fun h => h)
    replace hB := hB.ext (by simp) hx8 (fun h => h)
    replace hmA := hmA.no hx8
    replace hmB := hmB.no hx8
    replace hBl := Nat.lt_of_lt_of_le hBl hx8.size
    clear hx8
    have a0 := hA.cell 0 _ rfl
    have a1 := hA.cell 1 _ rfl
    have a2 := hA.cell 2 _ rfl
    have a3 := hA.cell 3 _ rfl
    have a4 := hA.cell 4 _ rfl
    have a5 := hA.cell 5 _ rfl
    have b0 := hB.cell 0 _ rfl
    have b1 := hB.cell 1 _ rfl
    have b2 := hB.cell 2 _ rfl
    have b3 := hB.cell 3 _ rfl
    have b4 := hB.cell 4 _ rfl
    have b5 := hB.cell 5 _ rfl
    go_wp2_with fail
    refine (same_any w8 C C hb ha hmB.isIn hmA.isIn hsC hsC).mono ?_
    rintro e w9 ⟨r, rfl, hrr, hx9⟩
    obtain rfl : r = true := hrr.2 rfl
    clear hrr a0 a1 a2 a3 a4 a5 b0 b1 b2 b3 b4 b5
    replace hW := hW.comp hx9
    replace hA := hA.ext (by simp) hx9 (fun h => h)
    replace hB := hB.ext (by simp) hx9 (fun h => h)
    replace hmA := hmA.no hx9
    replace hmB := hmB.no hx9
    replace hBl := Nat.lt_of_lt_of_le hBl hx9.size
    clear hx9
    go_wp2_with fail
    refine (cowithin_any wh 6 w9 (by omega) (by omega) hwh).mono ?_
    rintro e _ ⟨rfl, rfl⟩
    have hk0 := Int.emod_nonneg wh (show (6 : Int) ≠ 0 by omega)
    have hk6 := Int.emod_lt_of_pos wh (show (0 : Int) < 6 by omega)
    generalize wh % 6 = k at *
    by_cases hk : k = 0
    · have Hk := Lib.hid hk
      have b0_ : (k == 0) = true := by rw [beq_iff_eq]; exact hk
      clear hk hk0 hk6
      have b0 := hB.cell 0 _ rfl
      have hX1 : Rd (w9.alloc (.cells #[.int .i64 9, .int .i64 1, .int .i64 1] 38)) (some ⟨w9.heap.size, 0, none⟩) (DotR.cells (⟨9, 1, 1⟩ : DotR)) := Rd.lit w9 #[.int .i64 9, .int .i64 1, .int .i64 1] _ _
      have hlen := Hsm.out.v
      go_wp2_with (at_builtin; refine wpList_append TEntry rfl rfl rfl (hmB.v.alloc _) rfl hX1 rfl (one1Entry _) ?c1 ?c2 ?c3 ?_)
      case c1 => unfold maxLen; omega
      case c2 => omega
      case c3 => first | omega | (simp; omega)
      intro a' c' w10 hp
      have hxa := Ext.alloc no w9 (.cells #[.int .i64 9, .int .i64 1, .int .i64 1] 38)
      have hmB9 := hmB.no hxa
      have hmA9 := hmA.no hxa
      have hown : Own w10 B5 a' 3 (C.v.length + 1) c' (rows DotR.cells (C.v ++ [⟨9, 1, 1⟩])) := by have q := hp.own; rw [rows_append, rows_one]; exact q
      have hmB' := hmB9.setV (l := C.v ++ [⟨9, 1, 1⟩]) (by simp) hown hp.ext hp.near
      have nb : ∀ q, q < B5 → ¬ blk hb.v q := fun q hq => by rintro ⟨ad, h, hh⟩; have := (hBh 0 ad h).1; omega
      have nbg : ¬ blk hb.v gB := by rintro ⟨ad, h, hh⟩; have := (hBh 0 ad h).2; omega
      have hmA' := hmA9.ext hp.ext (fun i ad hi => nb _ (by have := hAh i ad hi; omega))
      replace hA := (hA.ext (by simp) hxa (fun h => h)).ext (by simp) hp.ext (nb _ (by omega))
      replace hB := (hB.ext (by simp) hxa (fun h => h)).ext (by simp) hp.ext nbg
      have hnr := hp.near
      have hz9 := hxa.size
      have hW' := (hW.comp hxa).trans hp.ext (fun q hq => nb q (by omega))
      have hbn : ∀ i ad, ({ hb with v := a', vc := c' } : Six).at i = some ad → ad.block ≠ gB := fun i ad hi => by
        by_cases h0 : i = 0
        · subst h0
          rcases hnr ad hi with ⟨x, hx, hh⟩ | q
          · have := (hBh 0 x hx).2; omega
          · have e : (w9.alloc (.cells #[.int .i64 9, .int .i64 1, .int .i64 1] 38)).heap.size = w9.heap.size + 1 := by simp
            omega
        · have : hb.at i = some ad := by rcases i with _ | _ | _ | _ | _ | _ | i <;> first | exact hi | exact absurd rfl h0
          have := (hBh i ad this).2
          omega
      clear b0 hX1 hp hmB9 hmA9 hxa hown hmB hmA hW nb nbg hnr hz9
      have b0 := hB.cell 0 _ rfl
      have fb := hB.fr 0
      go_upto_region 24 with fail
      have hxs : Ext (just gB) w10 (w10.setCell ⟨gB, 0, none⟩ (.slice a' (C.v.length + 1) c')) := Ext.setCell _ _ _ rfl
      have hmB := hmB'.ext hxs (fun i ad hi e => by have e : ad.block = gB := e; exact hbn i ad hi e)
      have hmA := hmA'.ext hxs (fun i ad hi e => by have e : ad.block = gB := e; have := hAh i ad hi; omega)
      replace hA := hA.ext (by simp) hxs (fun e => by have e : gA = gB := e; omega)
      replace hB := hB.set 0 (.slice a' (C.v.length + 1) c') (by simp)
      have hW := hW'.trans hxs (fun q hq e => by have e : q = gB := e; omega)
      have hne : C ≠ ({ C with v := C.v ++ [⟨9, 1, 1⟩] } : CollR) := fun e => by have := congrArg (fun D : CollR => D.v.length) e; simp at this
      have hsD : ({ C with v := C.v ++ [⟨9, 1, 1⟩] } : CollR).small 1099511627776 := ⟨by have := hsC.v; have := Hsm.out.v; simp; omega, by have := Hsm.out.r; simp; omega, by have := Hsm.out.e; simp; omega, by have := Hsm.out.g; simp; omega, by have := Hsm.out.s; simp; omega, by have := Hsm.out.b; simp; omega⟩
      clear b0 fb hxs hmB' hmA' hbn hW'
      generalize w10.setCell ⟨gB, 0, none⟩ (.slice a' (C.v.length + 1) c') = w11 at *
      have hl1 : (C.v ++ [(⟨9, 1, 1⟩ : DotR)]).length = C.v.length + 1 := by simp
      obtain ⟨D, hD⟩ : ∃ D : CollR, D = { C with v := C.v ++ [⟨9, 1, 1⟩] } := ⟨_, rfl⟩
      obtain ⟨h5, hh5⟩ : ∃ h5 : Six, h5 = { hb with v := a', vc := c' } := ⟨_, rfl⟩
      have hm5 : Mine D w11 B5 h5 := by rw [hD, hh5]; exact hmB
      have hB5 : Blk w11 gB [.slice h5.v D.v.length h5.vc, .slice h5.r D.regs.length h5.rc, .slice h5.e D.elems.length h5.ec, .slice h5.g D.gone.length h5.gc, .slice h5.s D.sums.length h5.sc, .slice h5.b D.binds.length h5.bc] := by rw [hD, hh5]; simp only [hl1]; exact hB
      rw [← hD] at hne hsD
      clear hB hmB hl1 hD hh5
      have hB := hB5
      clear hB5
      have hDin := hm5.isIn
      clear hm5
      have a0 := hA.cell 0 _ rfl
      have a1 := hA.cell 1 _ rfl
      have a2 := hA.cell 2 _ rfl
      have a3 := hA.cell 3 _ rfl
      have a4 := hA.cell 4 _ rfl
      have a5 := hA.cell 5 _ rfl
      have b0 := hB.cell 0 _ rfl
      have b1 := hB.cell 1 _ rfl
      have b2 := hB.cell 2 _ rfl
      have b3 := hB.cell 3 _ rfl
      have b4 := hB.cell 4 _ rfl
      have b5 := hB.cell 5 _ rfl
      go_wp2_with fail
      refine (same_any w11 C D ha h5 hmA.isIn hDin hsC hsD).mono ?_
      rintro e w12 ⟨r, rfl, hrr, hx12⟩
      have hrF : r = false := by
        cases r with
        | false => rfl
        | true => exact absurd (hrr.1 rfl) hne
      subst hrF
      clear hrr a0 a1 a2 a3 a4 a5 b0 b1 b2 b3 b4 b5
      replace hA := hA.ext (by simp) hx12 (fun h => h)
      replace hB := hB.ext (by simp) hx12 (fun h => h)
      replace hmA := hmA.no hx12
      replace hDin := hDin.ext hx12
      replace hW := hW.comp hx12
      clear hx12
      have a0 := hA.cell 0 _ rfl
      have a1 := hA.cell 1 _ rfl
      have a2 := hA.cell 2 _ rfl
      have a3 := hA.cell 3 _ rfl
      have a4 := hA.cell 4 _ rfl
      have a5 := hA.cell 5 _ rfl
      have b0 := hB.cell 0 _ rfl
      have b1 := hB.cell 1 _ rfl
      have b2 := hB.cell 2 _ rfl
      have b3 := hB.cell 3 _ rfl
      have b4 := hB.cell 4 _ rfl
      have b5 := hB.cell 5 _ rfl
      go_wp2_with fail
      refine (same_any w12 D C h5 ha hDin hmA.isIn hsD hsC).mono ?_
      rintro e w13 ⟨r, rfl, hrr, hx13⟩
      have hrF : r = false := by
        cases r with
        | false => rfl
        | true => exact absurd (hrr.1 rfl).symm hne
      subst hrF
      clear hrr a0 a1 a2 a3 a4 a5 b0 b1 b2 b3 b4 b5
      go_wp2_with fail
      go_ret
      exact ⟨rfl, hW.comp hx13⟩
    by_cases hk : k = 1
    · have Hk := Lib.hid hk
      have b0_ : (k == 0) = false := by rw [beq_eq_false_iff_ne]; omega
      have b1_ : (k == 1) = true := by rw [beq_iff_eq]; exact hk
      clear hk hk0 hk6
      have b1 := hB.cell 1 _ rfl
      have hX1 : Rd (w9.alloc (.cells #[.string { data := #[122, 122] }, .string { data := #[] }, .int .i64 0, .int .i64 0, .int .i64 0, .int .i64 0, .int .i64 0] 41)) (some ⟨w9.heap.size, 0, none⟩) (RegR.cells (⟨[122, 122], [], 0, 0, ⟨0, 0, 0⟩⟩ : RegR)) := Rd.lit w9 #[.string { data := #[122, 122] }, .string { data := #[] }, .int .i64 0, .int .i64 0, .int .i64 0, .int .i64 0, .int .i64 0] _ _
      have hlen := Hsm.out.r
      go_wp2_with (at_builtin; refine wpList_append TReg rfl rfl rfl (hmB.r.alloc _) rfl hX1 rfl (one1Reg _) ?c1 ?c2 ?c3 ?_)
      case c1 => unfold maxLen; omega
      case c2 => omega
      case c3 => first | omega | (simp; omega)
      intro a' c' w10 hp
      have hxa := Ext.alloc no w9 (.cells #[.string { data := #[122, 122] }, .string { data := #[] }, .int .i64 0, .int .i64 0, .int .i64 0, .int .i64 0, .int .i64 0] 41)
      have hmB9 := hmB.no hxa
      have hmA9 := hmA.no hxa
      have hown : Own w10 B5 a' 7 (C.regs.length + 1) c' (rows RegR.cells (C.regs ++ [⟨[122, 122], [], 0, 0, ⟨0, 0, 0⟩⟩])) := by have q := hp.own; rw [rows_append, rows_one]; exact q
      have hmB' := hmB9.setR (l := C.regs ++ [⟨[122, 122], [], 0, 0, ⟨0, 0, 0⟩⟩]) (by simp) hown hp.ext hp.near
      have nb : ∀ q, q < B5 → ¬ blk hb.r q := fun q hq => by rintro ⟨ad, h, hh⟩; have := (hBh 1 ad h).1; omega
      have nbg : ¬ blk hb.r gB := by rintro ⟨ad, h, hh⟩; have := (hBh 1 ad h).2; omega
      have hmA' := hmA9.ext hp.ext (fun i ad hi => nb _ (by have := hAh i ad hi; omega))
      replace hA := (hA.ext (by simp) hxa (fun h => h)).ext (by simp) hp.ext (nb _ (by omega))
      replace hB := (hB.ext (by simp) hxa (fun h => h)).ext (by simp) hp.ext nbg
      have hnr := hp.near
      have hz9 := hxa.size
      have hW' := (hW.comp hxa).trans hp.ext (fun q hq => nb q (by omega))
      have hbn : ∀ i ad, ({ hb with r := a', rc := c' } : Six).at i = some ad → ad.block ≠ gB := fun i ad hi => by
        by_cases h0 : i = 1
        · subst h0
          rcases hnr ad hi with ⟨x, hx, hh⟩ | q
          · have := (hBh 1 x hx).2; omega
          · have e : (w9.alloc (.cells #[.string { data := #[122, 122] }, .string { data := #[] }, .int .i64 0, .int .i64 0, .int .i64 0, .int .i64 0, .int .i64 0] 41)).heap.size = w9.heap.size + 1 := by simp
            omega
        · have : hb.at i = some ad := by rcases i with _ | _ | _ | _ | _ | _ | i <;> first | exact hi | exact absurd rfl h0
          have := (hBh i ad this).2
          omega
      clear b1 hX1 hp hmB9 hmA9 hxa hown hmB hmA hW nb nbg hnr hz9
      have b1 := hB.cell 1 _ rfl
      have fb := hB.fr 1
      go_upto_region 24 with fail
      have hxs : Ext (just gB) w10 (w10.setCell ⟨gB, 1, none⟩ (.slice a' (C.regs.length + 1) c')) := Ext.setCell _ _ _ rfl
      have hmB := hmB'.ext hxs (fun i ad hi e => by have e : ad.block = gB := e; exact hbn i ad hi e)
      have hmA := hmA'.ext hxs (fun i ad hi e => by have e : ad.block = gB := e; have := hAh i ad hi; omega)
      replace hA := hA.ext (by simp) hxs (fun e => by have e : gA = gB := e; omega)
      replace hB := hB.set 1 (.slice a' (C.regs.length + 1) c') (by simp)
      have hW := hW'.trans hxs (fun q hq e => by have e : q = gB := e; omega)
      have hne : C ≠ ({ C with regs := C.regs ++ [⟨[122, 122], [], 0, 0, ⟨0, 0, 0⟩⟩] } : CollR) := fun e => by have := congrArg (fun D : CollR => D.regs.length) e; simp at this
      have hsD : ({ C with regs := C.regs ++ [⟨[122, 122], [], 0, 0, ⟨0, 0, 0⟩⟩] } : CollR).small 1099511627776 := ⟨by have := hsC.v; have := Hsm.out.v; simp; omega, by have := Hsm.out.r; simp; omega, by have := Hsm.out.e; simp; omega, by have := Hsm.out.g; simp; omega, by have := Hsm.out.s; simp; omega, by have := Hsm.out.b; simp; omega⟩
      clear b1 fb hxs hmB' hmA' hbn hW'
      generalize w10.setCell ⟨gB, 1, none⟩ (.slice a' (C.regs.length + 1) c') = w11 at *
      have hl1 : (C.regs ++ [(⟨[122, 122], [], 0, 0, ⟨0, 0, 0⟩⟩ : RegR)]).length = C.regs.length + 1 := by simp
      obtain ⟨D, hD⟩ : ∃ D : CollR, D = { C with regs := C.regs ++ [⟨[122, 122], [], 0, 0, ⟨0, 0, 0⟩⟩] } := ⟨_, rfl⟩
      obtain ⟨h5, hh5⟩ : ∃ h5 : Six, h5 = { hb with r := a', rc := c' } := ⟨_, rfl⟩
      have hm5 : Mine D w11 B5 h5 := by rw [hD, hh5]; exact hmB
      have hB5 : Blk w11 gB [.slice h5.v D.v.length h5.vc, .slice h5.r D.regs.length h5.rc, .slice h5.e D.elems.length h5.ec, .slice h5.g D.gone.length h5.gc, .slice h5.s D.sums.length h5.sc, .slice h5.b D.binds.length h5.bc] := by rw [hD, hh5]; simp only [hl1]; exact hB
      rw [← hD] at hne hsD
      clear hB hmB hl1 hD hh5
      have hB := hB5
      clear hB5
      have hDin := hm5.isIn
      clear hm5
      have a0 := hA.cell 0 _ rfl
      have a1 := hA.cell 1 _ rfl
      have a2 := hA.cell 2 _ rfl
      have a3 := hA.cell 3 _ rfl
      have a4 := hA.cell 4 _ rfl
      have a5 := hA.cell 5 _ rfl
      have b0 := hB.cell 0 _ rfl
      have b1 := hB.cell 1 _ rfl
      have b2 := hB.cell 2 _ rfl
      have b3 := hB.cell 3 _ rfl
      have b4 := hB.cell 4 _ rfl
      have b5 := hB.cell 5 _ rfl
      go_wp2_with fail
      refine (same_any w11 C D ha h5 hmA.isIn hDin hsC hsD).mono ?_
      rintro e w12 ⟨r, rfl, hrr, hx12⟩
      have hrF : r = false := by
        cases r with
        | false => rfl
        | true => exact absurd (hrr.1 rfl) hne
      subst hrF
      clear hrr a0 a1 a2 a3 a4 a5 b0 b1 b2 b3 b4 b5
      replace hA := hA.ext (by simp) hx12 (fun h => h)
      replace hB := hB.ext (by simp) hx12 (fun h => h)
      replace hmA := hmA.no hx12
      replace hDin := hDin.ext hx12
      replace hW := hW.comp hx12
      clear hx12
      have a0 := hA.cell 0 _ rfl
      have a1 := hA.cell 1 _ rfl
      have a2 := hA.cell 2 _ rfl
      have a3 := hA.cell 3 _ rfl
      have a4 := hA.cell 4 _ rfl
      have a5 := hA.cell 5 _ rfl
      have b0 := hB.cell 0 _ rfl
      have b1 := hB.cell 1 _ rfl
      have b2 := hB.cell 2 _ rfl
      have b3 := hB.cell 3 _ rfl
      have b4 := hB.cell 4 _ rfl
      have b5 := hB.cell 5 _ rfl
      go_wp2_with fail
      refine (same_any w12 D C h5 ha hDin hmA.isIn hsD hsC).mono ?_
      rintro e w13 ⟨r, rfl, hrr, hx13⟩
      have hrF : r = false := by
        cases r with
        | false => rfl
        | true => exact absurd (hrr.1 rfl).symm hne
      subst hrF
      clear hrr a0 a1 a2 a3 a4 a5 b0 b1 b2 b3 b4 b5
      go_wp2_with fail
      go_ret
      exact ⟨rfl, hW.comp hx13⟩
    by_cases hk : k = 2
    · have Hk := Lib.hid hk
      have b0_ : (k == 0) = false := by rw [beq_eq_false_iff_ne]; omega
      have b1_ : (k == 1) = false := by rw [beq_eq_false_iff_ne]; omega
      have b2_ : (k == 2) = true := by rw [beq_iff_eq]; exact hk
      clear hk hk0 hk6
      have b3 := hB.cell 3 _ rfl
      have hX1 : Rd (w9.alloc (.cells #[.int .i64 9, .int .i64 0, .int .i64 0] 39)) (some ⟨w9.heap.size, 0, none⟩) (DotR.cells (⟨9, 0, 0⟩ : DotR)) := Rd.lit w9 #[.int .i64 9, .int .i64 0, .int .i64 0] _ _
      have hlen := Hsm.out.g
      go_wp2_with (at_builtin; refine wpList_append TDot rfl rfl rfl (hmB.g.alloc _) rfl hX1 rfl (one1Dot _) ?c1 ?c2 ?c3 ?_)
      case c1 => unfold maxLen; omega
      case c2 => omega
      case c3 => first | omega | (simp; omega)
      intro a' c' w10 hp
      have hxa := Ext.alloc no w9 (.cells #[.int .i64 9, .int .i64 0, .int .i64 0] 39)
      have hmB9 := hmB.no hxa
      have hmA9 := hmA.no hxa
      have hown : Own w10 B5 a' 3 (C.gone.length + 1) c' (rows DotR.cells (C.gone ++ [⟨9, 0, 0⟩])) := by have q := hp.own; rw [rows_append, rows_one]; exact q
      have hmB' := hmB9.setG (l := C.gone ++ [⟨9, 0, 0⟩]) (by simp) hown hp.ext hp.near
      have nb : ∀ q, q < B5 → ¬ blk hb.g q := fun q hq => by rintro ⟨ad, h, hh⟩; have := (hBh 3 ad h).1; omega
      have nbg : ¬ blk hb.g gB := by rintro ⟨ad, h, hh⟩; have := (hBh 3 ad h).2; omega
      have hmA' := hmA9.ext hp.ext (fun i ad hi => nb _ (by have := hAh i ad hi; omega))
      replace hA := (hA.ext (by simp) hxa (fun h => h)).ext (by simp) hp.ext (nb _ (by omega))
      replace hB := (hB.ext (by simp) hxa (fun h => h)).ext (by simp) hp.ext nbg
      have hnr := hp.near
      have hz9 := hxa.size
      have hW' := (hW.comp hxa).trans hp.ext (fun q hq => nb q (by omega))
      have hbn : ∀ i ad, ({ hb with g := a', gc := c' } : Six).at i = some ad → ad.block ≠ gB := fun i ad hi => by
        by_cases h0 : i = 3
        · subst h0
          rcases hnr ad hi with ⟨x, hx, hh⟩ | q
          · have := (hBh 3 x hx).2; omega
          · have e : (w9.alloc (.cells #[.int .i64 9, .int .i64 0, .int .i64 0] 39)).heap.size = w9.heap.size + 1 := by simp
            omega
        · have : hb.at i = some ad := by rcases i with _ | _ | _ | _ | _ | _ | i <;> first | exact hi | exact absurd rfl h0
          have := (hBh i ad this).2
          omega
      clear b3 hX1 hp hmB9 hmA9 hxa hown hmB hmA hW nb nbg hnr hz9
      have b3 := hB.cell 3 _ rfl
      have fb := hB.fr 3
      go_upto_region 24 with fail
      have hxs : Ext (just gB) w10 (w10.setCell ⟨gB, 3, none⟩ (.slice a' (C.gone.length + 1) c')) := Ext.setCell _ _ _ rfl
      have hmB := hmB'.ext hxs (fun i ad hi e => by have e : ad.block = gB := e; exact hbn i ad hi e)
      have hmA := hmA'.ext hxs (fun i ad hi e => by have e : ad.block = gB := e; have := hAh i ad hi; omega)
      replace hA := hA.ext (by simp) hxs (fun e => by have e : gA = gB := e; omega)
      replace hB := hB.set 3 (.slice a' (C.gone.length + 1) c') (by simp)
      have hW := hW'.trans hxs (fun q hq e => by have e : q = gB := e; omega)
      have hne : C ≠ ({ C with gone := C.gone ++ [⟨9, 0, 0⟩] } : CollR) := fun e => by have := congrArg (fun D : CollR => D.gone.length) e; simp at this
      have hsD : ({ C with gone := C.gone ++ [⟨9, 0, 0⟩] } : CollR).small 1099511627776 := ⟨by have := hsC.v; have := Hsm.out.v; simp; omega, by have := Hsm.out.r; simp; omega, by have := Hsm.out.e; simp; omega, by have := Hsm.out.g; simp; omega, by have := Hsm.out.s; simp; omega, by have := Hsm.out.b; simp; omega⟩
      clear b3 fb hxs hmB' hmA' hbn hW'
      generalize w10.setCell ⟨gB, 3, none⟩ (.slice a' (C.gone.length + 1) c') = w11 at *
      have hl1 : (C.gone ++ [(⟨9, 0, 0⟩ : DotR)]).length = C.gone.length + 1 := by simp
      obtain ⟨D, hD⟩ : ∃ D : CollR, D = { C with gone := C.gone ++ [⟨9, 0, 0⟩] } := ⟨_, rfl⟩
      obtain ⟨h5, hh5⟩ : ∃ h5 : Six, h5 = { hb with g := a', gc := c' } := ⟨_, rfl⟩
      have hm5 : Mine D w11 B5 h5 := by rw [hD, hh5]; exact hmB
      have hB5 : Blk w11 gB [.slice h5.v D.v.length h5.vc, .slice h5.r D.regs.length h5.rc, .slice h5.e D.elems.length h5.ec, .slice h5.g D.gone.length h5.gc, .slice h5.s D.sums.length h5.sc, .slice h5.b D.binds.length h5.bc] := by rw [hD, hh5]; simp only [hl1]; exact hB
      rw [← hD] at hne hsD
      clear hB hmB hl1 hD hh5
      have hB := hB5
      clear hB5
      have hDin := hm5.isIn
      clear hm5
      have a0 := hA.cell 0 _ rfl
      have a1 := hA.cell 1 _ rfl
      have a2 := hA.cell 2 _ rfl
      have a3 := hA.cell 3 _ rfl
      have a4 := hA.cell 4 _ rfl
      have a5 := hA.cell 5 _ rfl
      have b0 := hB.cell 0 _ rfl
      have b1 := hB.cell 1 _ rfl
      have b2 := hB.cell 2 _ rfl
      have b3 := hB.cell 3 _ rfl
      have b4 := hB.cell 4 _ rfl
      have b5 := hB.cell 5 _ rfl
      go_wp2_with fail
      refine (same_any w11 C D ha h5 hmA.isIn hDin hsC hsD).mono ?_
      rintro e w12 ⟨r, rfl, hrr, hx12⟩
      have hrF : r = false := by
        cases r with
        | false => rfl
        | true => exact absurd (hrr.1 rfl) hne
      subst hrF
      clear hrr a0 a1 a2 a3 a4 a5 b0 b1 b2 b3 b4 b5
      replace hA := hA.ext (by simp) hx12 (fun h => h)
      replace hB := hB.ext (by simp) hx12 (fun h => h)
      replace hmA := hmA.no hx12
      replace hDin := hDin.ext hx12
      replace hW := hW.comp hx12
      clear hx12
      have a0 := hA.cell 0 _ rfl
      have a1 := hA.cell 1 _ rfl
      have a2 := hA.cell 2 _ rfl
      have a3 := hA.cell 3 _ rfl
      have a4 := hA.cell 4 _ rfl
      have a5 := hA.cell 5 _ rfl
      have b0 := hB.cell 0 _ rfl
      have b1 := hB.cell 1 _ rfl
      have b2 := hB.cell 2 _ rfl
      have b3 := hB.cell 3 _ rfl
      have b4 := hB.cell 4 _ rfl
      have b5 := hB.cell 5 _ rfl
      go_wp2_with fail
      refine (same_any w12 D C h5 ha hDin hmA.isIn hsD hsC).mono ?_
      rintro e w13 ⟨r, rfl, hrr, hx13⟩
      have hrF : r = false := by
        cases r with
        | false => rfl
        | true => exact absurd (hrr.1 rfl).symm hne
      subst hrF
      clear hrr a0 a1 a2 a3 a4 a5 b0 b1 b2 b3 b4 b5
      go_wp2_with fail
      go_ret
      exact ⟨rfl, hW.comp hx13⟩
    by_cases hk : k = 3
    · have Hk := Lib.hid hk
      have b0_ : (k == 0) = false := by rw [beq_eq_false_iff_ne]; omega
      have b1_ : (k == 1) = false := by rw [beq_eq_false_iff_ne]; omega
      have b2_ : (k == 2) = false := by rw [beq_eq_false_iff_ne]; omega
      have b3_ : (k == 3) = true := by rw [beq_iff_eq]; exact hk
      clear hk hk0 hk6
      have b4 := hB.cell 4 _ rfl
      have hX1 : Rd (w9.alloc (.cells #[.string { data := #[122, 122] }, .int .i64 0] 43)) (some ⟨w9.heap.size, 0, none⟩) (SumR.cells (⟨[122, 122], 0⟩ : SumR)) := Rd.lit w9 #[.string { data := #[122, 122] }, .int .i64 0] _ _
      have hlen := Hsm.out.s
      go_wp2_with (at_builtin; refine wpList_append TSum rfl rfl rfl (hmB.s.alloc _) rfl hX1 rfl (one1Sum _) ?c1 ?c2 ?c3 ?_)
      case c1 => unfold maxLen; omega
      case c2 => omega
      case c3 => first | omega | (simp; omega)
      intro a' c' w10 hp
      have hxa := Ext.alloc no w9 (.cells #[.string { data := #[122, 122] }, .int .i64 0] 43)
      have hmB9 := hmB.no hxa
      have hmA9 := hmA.no hxa
      have hown : Own w10 B5 a' 2 (C.sums.length + 1) c' (rows SumR.cells (C.sums ++ [⟨[122, 122], 0⟩])) := by have q := hp.own; rw [rows_append, rows_one]; exact q
      have hmB' := hmB9.setS (l := C.sums ++ [⟨[122, 122], 0⟩]) (by simp) hown hp.ext hp.near
      have nb : ∀ q, q < B5 → ¬ blk hb.s q := fun q hq => by rintro ⟨ad, h, hh⟩; have := (hBh 4 ad h).1; omega
      have nbg : ¬ blk hb.s gB := by rintro ⟨ad, h, hh⟩; have := (hBh 4 ad h).2; omega
      have hmA' := hmA9.ext hp.ext (fun i ad hi => nb _ (by have := hAh i ad hi; omega))
      replace hA := (hA.ext (by simp) hxa (fun h => h)).ext (by simp) hp.ext (nb _ (by omega))
      replace hB := (hB.ext (by simp) hxa (fun h => h)).ext (by simp) hp.ext nbg
      have hnr := hp.near
      have hz9 := hxa.size
      have hW' := (hW.comp hxa).trans hp.ext (fun q hq => nb q (by omega))
      have hbn : ∀ i ad, ({ hb with s := a', sc := c' } : Six).at i = some ad → ad.block ≠ gB := fun i ad hi => by
        by_cases h0 : i = 4
        · subst h0
          rcases hnr ad hi with ⟨x, hx, hh⟩ | q
          · have := (hBh 4 x hx).2; omega
          · have e : (w9.alloc (.cells #[.string { data := #[122, 122] }, .int .i64 0] 43)).heap.size = w9.heap.size + 1 := by simp
            omega
        · have : hb.at i = some ad := by rcases i with _ | _ | _ | _ | _ | _ | i <;> first | exact hi | exact absurd rfl h0
          have := (hBh i ad this).2
          omega
      clear b4 hX1 hp hmB9 hmA9 hxa hown hmB hmA hW nb nbg hnr hz9
      have b4 := hB.cell 4 _ rfl
      have fb := hB.fr 4
      go_upto_region 24 with fail
      have hxs : Ext (just gB) w10 (w10.setCell ⟨gB, 4, none⟩ (.slice a' (C.sums.length + 1) c')) := Ext.setCell _ _ _ rfl
      have hmB := hmB'.ext hxs (fun i ad hi e => by have e : ad.block = gB := e; exact hbn i ad hi e)
      have hmA := hmA'.ext hxs (fun i ad hi e => by have e : ad.block = gB := e; have := hAh i ad hi; omega)
      replace hA := hA.ext (by simp) hxs (fun e => by have e : gA = gB := e; omega)
      replace hB := hB.set 4 (.slice a' (C.sums.length + 1) c') (by simp)
      have hW := hW'.trans hxs (fun q hq e => by have e : q = gB := e; omega)
      have hne : C ≠ ({ C with sums := C.sums ++ [⟨[122, 122], 0⟩] } : CollR) := fun e => by have := congrArg (fun D : CollR => D.sums.length) e; simp at this
      have hsD : ({ C with sums := C.sums ++ [⟨[122, 122], 0⟩] } : CollR).small 1099511627776 := ⟨by have := hsC.v; have := Hsm.out.v; simp; omega, by have := Hsm.out.r; simp; omega, by have := Hsm.out.e; simp; omega, by have := Hsm.out.g; simp; omega, by have := Hsm.out.s; simp; omega, by have := Hsm.out.b; simp; omega⟩
      clear b4 fb hxs hmB' hmA' hbn hW'
      generalize w10.setCell ⟨gB, 4, none⟩ (.slice a' (C.sums.length + 1) c') = w11 at *
      have hl1 : (C.sums ++ [(⟨[122, 122], 0⟩ : SumR)]).length = C.sums.length + 1 := by simp
      obtain ⟨D, hD⟩ : ∃ D : CollR, D = { C with sums := C.sums ++ [⟨[122, 122], 0⟩] } := ⟨_, rfl⟩
      obtain ⟨h5, hh5⟩ : ∃ h5 : Six, h5 = { hb with s := a', sc := c' } := ⟨_, rfl⟩
      have hm5 : Mine D w11 B5 h5 := by rw [hD, hh5]; exact hmB
      have hB5 : Blk w11 gB [.slice h5.v D.v.length h5.vc, .slice h5.r D.regs.length h5.rc, .slice h5.e D.elems.length h5.ec, .slice h5.g D.gone.length h5.gc, .slice h5.s D.sums.length h5.sc, .slice h5.b D.binds.length h5.bc] := by rw [hD, hh5]; simp only [hl1]; exact hB
      rw [← hD] at hne hsD
      clear hB hmB hl1 hD hh5
      have hB := hB5
      clear hB5
      have hDin := hm5.isIn
      clear hm5
      have a0 := hA.cell 0 _ rfl
      have a1 := hA.cell 1 _ rfl
      have a2 := hA.cell 2 _ rfl
      have a3 := hA.cell 3 _ rfl
      have a4 := hA.cell 4 _ rfl
      have a5 := hA.cell 5 _ rfl
      have b0 := hB.cell 0 _ rfl
      have b1 := hB.cell 1 _ rfl
      have b2 := hB.cell 2 _ rfl
      have b3 := hB.cell 3 _ rfl
      have b4 := hB.cell 4 _ rfl
      have b5 := hB.cell 5 _ rfl
      go_wp2_with fail
      refine (same_any w11 C D ha h5 hmA.isIn hDin hsC hsD).mono ?_
      rintro e w12 ⟨r, rfl, hrr, hx12⟩
      have hrF : r = false := by
        cases r with
        | false => rfl
        | true => exact absurd (hrr.1 rfl) hne
      subst hrF
      clear hrr a0 a1 a2 a3 a4 a5 b0 b1 b2 b3 b4 b5
      replace hA := hA.ext (by simp) hx12 (fun h => h)
      replace hB := hB.ext (by simp) hx12 (fun h => h)
      replace hmA := hmA.no hx12
      replace hDin := hDin.ext hx12
      replace hW := hW.comp hx12
      clear hx12
      have a0 := hA.cell 0 _ rfl
      have a1 := hA.cell 1 _ rfl
      have a2 := hA.cell 2 _ rfl
      have a3 := hA.cell 3 _ rfl
      have a4 := hA.cell 4 _ rfl
      have a5 := hA.cell 5 _ rfl
      have b0 := hB.cell 0 _ rfl
      have b1 := hB.cell 1 _ rfl
      have b2 := hB.cell 2 _ rfl
      have b3 := hB.cell 3 _ rfl
      have b4 := hB.cell 4 _ rfl
      have b5 := hB.cell 5 _ rfl
      go_wp2_with fail
      refine (same_any w12 D C h5 ha hDin hmA.isIn hsD hsC).mono ?_
      rintro e w13 ⟨r, rfl, hrr, hx13⟩
      have hrF : r = false := by
        cases r with
        | false => rfl
        | true => exact absurd (hrr.1 rfl).symm hne
      subst hrF
      clear hrr a0 a1 a2 a3 a4 a5 b0 b1 b2 b3 b4 b5
      go_wp2_with fail
      go_ret
      exact ⟨rfl, hW.comp hx13⟩
    by_cases hk : k = 4
    · have Hk := Lib.hid hk
      have b0_ : (k == 0) = false := by rw [beq_eq_false_iff_ne]; omega
      have b1_ : (k == 1) = false := by rw [beq_eq_false_iff_ne]; omega
      have b2_ : (k == 2) = false := by rw [beq_eq_false_iff_ne]; omega
      have b3_ : (k == 3) = false := by rw [beq_eq_false_iff_ne]; omega
      have b4_ : (k == 4) = true := by rw [beq_iff_eq]; exact hk
      clear hk hk0 hk6
      have b5 := hB.cell 5 _ rfl
      have hX1 : Rd (w9.alloc (.cells #[.int .i64 999, .string { data := #[] }, .int .i64 0, .int .i64 0, .int .i64 0, .int .i64 0] 45)) (some ⟨w9.heap.size, 0, none⟩) (BindR.cells (⟨999, [], 0, ⟨0, 0, 0⟩⟩ : BindR)) := Rd.lit w9 #[.int .i64 999, .string { data := #[] }, .int .i64 0, .int .i64 0, .int .i64 0, .int .i64 0] _ _
      have hlen := Hsm.out.b
      go_wp2_with (at_builtin; refine wpList_append TBind rfl rfl rfl (hmB.b.alloc _) rfl hX1 rfl (one1Bind _) ?c1 ?c2 ?c3 ?_)
      case c1 => unfold maxLen; omega
      case c2 => omega
      case c3 => first | omega | (simp; omega)
      intro a' c' w10 hp
      have hxa := Ext.alloc no w9 (.cells #[.int .i64 999, .string { data := #[] }, .int .i64 0, .int .i64 0, .int .i64 0, .int .i64 0] 45)
      have hmB9 := hmB.no hxa
      have hmA9 := hmA.no hxa
      have hown : Own w10 B5 a' 6 (C.binds.length + 1) c' (rows BindR.cells (C.binds ++ [⟨999, [], 0, ⟨0, 0, 0⟩⟩])) := by have q := hp.own; rw [rows_append, rows_one]; exact q
      have hmB' := hmB9.setB (l := C.binds ++ [⟨999, [], 0, ⟨0, 0, 0⟩⟩]) (by simp) hown hp.ext hp.near
      have nb : ∀ q, q < B5 → ¬ blk hb.b q := fun q hq => by rintro ⟨ad, h, hh⟩; have := (hBh 5 ad h).1; omega
      have nbg : ¬ blk hb.b gB := by rintro ⟨ad, h, hh⟩; have := (hBh 5 ad h).2; omega
      have hmA' := hmA9.ext hp.ext (fun i ad hi => nb _ (by have := hAh i ad hi; omega))
      replace hA := (hA.ext (by simp) hxa (fun h => h)).ext (by simp) hp.ext (nb _ (by omega))
      replace hB := (hB.ext (by simp) hxa (fun h => h)).ext (by simp) hp.ext nbg
      have hnr := hp.near
      have hz9 := hxa.size
      have hW' := (hW.comp hxa).trans hp.ext (fun q hq => nb q (by omega))
      have hbn : ∀ i ad, ({ hb with b := a', bc := c' } : Six).at i = some ad → ad.block ≠ gB := fun i ad hi => by
        by_cases h0 : i = 5
        · subst h0
          rcases hnr ad hi with ⟨x, hx, hh⟩ | q
          · have := (hBh 5 x hx).2; omega
          · have e : (w9.alloc (.cells #[.int .i64 999, .string { data := #[] }, .int .i64 0, .int .i64 0, .int .i64 0, .int .i64 0] 45)).heap.size = w9.heap.size + 1 := by simp
            omega
        · have : hb.at i = some ad := by rcases i with _ | _ | _ | _ | _ | _ | i <;> first | exact hi | exact absurd rfl h0
          have := (hBh i ad this).2
          omega
      clear b5 hX1 hp hmB9 hmA9 hxa hown hmB hmA hW nb nbg hnr hz9
      have b5 := hB.cell 5 _ rfl
      have fb := hB.fr 5
      go_upto_region 24 with fail
      have hxs : Ext (just gB) w10 (w10.setCell ⟨gB, 5, none⟩ (.slice a' (C.binds.length + 1) c')) := Ext.setCell _ _ _ rfl
      have hmB := hmB'.ext hxs (fun i ad hi e => by have e : ad.block = gB := e; exact hbn i ad hi e)
      have hmA := hmA'.ext hxs (fun i ad hi e => by have e : ad.block = gB := e; have := hAh i ad hi; omega)
      replace hA := hA.ext (by simp) hxs (fun e => by have e : gA = gB := e; omega)
      replace hB := hB.set 5 (.slice a' (C.binds.length + 1) c') (by simp)
      have hW := hW'.trans hxs (fun q hq e => by have e : q = gB := e; omega)
      have hne : C ≠ ({ C with binds := C.binds ++ [⟨999, [], 0, ⟨0, 0, 0⟩⟩] } : CollR) := fun e => by have := congrArg (fun D : CollR => D.binds.length) e; simp at this
      have hsD : ({ C with binds := C.binds ++ [⟨999, [], 0, ⟨0, 0, 0⟩⟩] } : CollR).small 1099511627776 := ⟨by have := hsC.v; have := Hsm.out.v; simp; omega, by have := Hsm.out.r; simp; omega, by have := Hsm.out.e; simp; omega, by have := Hsm.out.g; simp; omega, by have := Hsm.out.s; simp; omega, by have := Hsm.out.b; simp; omega⟩
      clear b5 fb hxs hmB' hmA' hbn hW'
      generalize w10.setCell ⟨gB, 5, none⟩ (.slice a' (C.binds.length + 1) c') = w11 at *
      have hl1 : (C.binds ++ [(⟨999, [], 0, ⟨0, 0, 0⟩⟩ : BindR)]).length = C.binds.length + 1 := by simp
      obtain ⟨D, hD⟩ : ∃ D : CollR, D = { C with binds := C.binds ++ [⟨999, [], 0, ⟨0, 0, 0⟩⟩] } := ⟨_, rfl⟩
      obtain ⟨h5, hh5⟩ : ∃ h5 : Six, h5 = { hb with b := a', bc := c' } := ⟨_, rfl⟩
      have hm5 : Mine D w11 B5 h5 := by rw [hD, hh5]; exact hmB
      have hB5 : Blk w11 gB [.slice h5.v D.v.length h5.vc, .slice h5.r D.regs.length h5.rc, .slice h5.e D.elems.length h5.ec, .slice h5.g D.gone.length h5.gc, .slice h5.s D.sums.length h5.sc, .slice h5.b D.binds.length h5.bc] := by rw [hD, hh5]; simp only [hl1]; exact hB
      rw [← hD] at hne hsD
      clear hB hmB hl1 hD hh5
      have hB := hB5
      clear hB5
      have hDin := hm5.isIn
      clear hm5
      have a0 := hA.cell 0 _ rfl
      have a1 := hA.cell 1 _ rfl
      have a2 := hA.cell 2 _ rfl
      have a3 := hA.cell 3 _ rfl
      have a4 := hA.cell 4 _ rfl
      have a5 := hA.cell 5 _ rfl
      have b0 := hB.cell 0 _ rfl
      have b1 := hB.cell 1 _ rfl
      have b2 := hB.cell 2 _ rfl
      have b3 := hB.cell 3 _ rfl
      have b4 := hB.cell 4 _ rfl
      have b5 := hB.cell 5 _ rfl
      go_wp2_with fail
      refine (same_any w11 C D ha h5 hmA.isIn hDin hsC hsD).mono ?_
      rintro e w12 ⟨r, rfl, hrr, hx12⟩
      have hrF : r = false := by
        cases r with
        | false => rfl
        | true => exact absurd (hrr.1 rfl) hne
      subst hrF
      clear hrr a0 a1 a2 a3 a4 a5 b0 b1 b2 b3 b4 b5
      replace hA := hA.ext (by simp) hx12 (fun h => h)
      replace hB := hB.ext (by simp) hx12 (fun h => h)
      replace hmA := hmA.no hx12
      replace hDin := hDin.ext hx12
      replace hW := hW.comp hx12
      clear hx12
      have a0 := hA.cell 0 _ rfl
      have a1 := hA.cell 1 _ rfl
      have a2 := hA.cell 2 _ rfl
      have a3 := hA.cell 3 _ rfl
      have a4 := hA.cell 4 _ rfl
      have a5 := hA.cell 5 _ rfl
      have b0 := hB.cell 0 _ rfl
      have b1 := hB.cell 1 _ rfl
      have b2 := hB.cell 2 _ rfl
      have b3 := hB.cell 3 _ rfl
      have b4 := hB.cell 4 _ rfl
      have b5 := hB.cell 5 _ rfl
      go_wp2_with fail
      refine (same_any w12 D C h5 ha hDin hmA.isIn hsD hsC).mono ?_
      rintro e w13 ⟨r, rfl, hrr, hx13⟩
      have hrF : r = false := by
        cases r with
        | false => rfl
        | true => exact absurd (hrr.1 rfl).symm hne
      subst hrF
      clear hrr a0 a1 a2 a3 a4 a5 b0 b1 b2 b3 b4 b5
      go_wp2_with fail
      go_ret
      exact ⟨rfl, hW.comp hx13⟩
    have hk : k = 5 := by omega
    have b0_ : (k == 0) = false := by rw [beq_eq_false_iff_ne]; omega
    have b1_ : (k == 1) = false := by rw [beq_eq_false_iff_ne]; omega
    have b2_ : (k == 2) = false := by rw [beq_eq_false_iff_ne]; omega
    have b3_ : (k == 3) = false := by rw [beq_eq_false_iff_ne]; omega
    have b4_ : (k == 4) = false := by rw [beq_eq_false_iff_ne]; omega
    have b5_ : (k == 5) = true := by rw [beq_iff_eq]; exact hk
    clear hk hk0 hk6
    have b0 := hB.cell 0 _ rfl
    by_cases hn : C.v.length = 0
    · have d1 : ((C.v.length : Int) == 0) = true := by rw [beq_iff_eq]; omega
      have Hn := Lib.hid hn
      clear hn
      go_wp2_with fail
      go_ret
      exact ⟨rfl, hW⟩
    have d1 : ((C.v.length : Int) == 0) = false := by rw [beq_eq_false_iff_ne]; omega
    have hvl := Hsm.out.v
    have hp0 := Int.emod_nonneg pt (show (C.v.length : Int) ≠ 0 by omega)
    have hp1 := Int.emod_lt_of_pos pt (show (0 : Int) < (C.v.length : Int) by omega)
    obtain ⟨kk, hkk⟩ : ∃ kk : Nat, (kk : Int) = pt % (C.v.length : Int) := ⟨(pt % (C.v.length : Int)).toNat, Int.toNat_of_nonneg hp0⟩
    have hkl : kk < C.v.length := by omega
    have HKK := Lib.hid hkk
    clear hkk hp0 hp1
    obtain ⟨x, hx⟩ : ∃ x, C.v[kk]? = some x := ⟨_, List.getElem?_eq_getElem hkl⟩
    obtain ⟨sb, so, hsb⟩ := hmB.v.lits (by have := hmB.v.nc; omega)
    have hmv := hmB.v
    rw [hsb] at hmv b0
    have Hsb := Lib.hid hsb
    clear hsb
    have y2 : w9.cell? ⟨sb, so + kk * 3 + 2, none⟩ = some (.int .i64 x.seq) := rows_cell kEntry hmv.rd hx 2 _ rfl
    have fy : w9.frozen? ⟨sb, so + kk * 3 + 2, none⟩ = false := hmv.free kk 2 hkl (by omega)
    go_upto_region 23 with fail
    refine wp_region_F [1, 4, 9] (looks [(1, fun z => Ext no w9 z), (4, fun z => Ext no w9 z), (9, fun z => Ext no w9 z)]) (by kernel_rfl) ?_
    have hT0 : ∀ k, looks [(1, fun z => Ext no w9 z), (4, fun z => Ext no w9 z), (9, fun z => Ext no w9 z)] k (w9.drew) := looks_all ⟨Ext.drew no w9, Ext.drew no w9, Ext.drew no w9, trivial⟩
    refine wpF_take 0 (v := ?_) rfl (by kernel_rfl) (by kernel_rfl) (by kernel_rfl) (fun _ _ _ h => h) hT0 (by rfl) ?_ ?_
    rotate_left
    · (intro wq; go_simp; try with_reducible rfl)
    simp only [pz]
    refine wpF_look 1 (v := .slice (some ⟨sb, so, none⟩) C.v.length hb.vc) rfl rfl (by kernel_rfl) (by kernel_rfl) (by kernel_rfl) (by kernel_rfl) (fun _ _ _ h => h) hT0 (by rfl) (fun w hS => by have hS : Ext no w9 w := hS; have q0 := hS.keeps b0 (fun h => h); go_simp) ?_
    simp only [pz]
    refine wpF_take 2 (v := ?_) rfl (by kernel_rfl) (by kernel_rfl) (by kernel_rfl) (fun _ _ _ h => h) hT0 (by rfl) ?_ ?_
    rotate_left
    · (intro wq; go_simp; try with_reducible rfl)
    simp only [pz]
    refine wpF_take 3 (v := ?_) rfl (by kernel_rfl) (by kernel_rfl) (by kernel_rfl) (fun _ _ _ h => h) hT0 (by rfl) ?_ ?_
    rotate_left
    · (intro wq; go_simp; try with_reducible rfl)
    simp only [pz]
    refine wpF_look 4 (v := .slice (some ⟨sb, so, none⟩) C.v.length hb.vc) rfl rfl (by kernel_rfl) (by kernel_rfl) (by kernel_rfl) (by kernel_rfl) (fun _ _ _ h => h) hT0 (by rfl) (fun w hS => by have hS : Ext no w9 w := hS; have q0 := hS.keeps b0 (fun h => h); go_simp) ?_
    simp only [pz]
    refine wpF_take 5 (v := ?_) rfl (by kernel_rfl) (by kernel_rfl) (by kernel_rfl) (fun _ _ _ h => h) hT0 (by rfl) ?_ ?_
    rotate_left
    · (intro wq; go_simp; try with_reducible rfl)
    simp only [pz]
    refine wpF_exec 6 rfl (by kernel_rfl) (by rfl) ?_
    intro K hK
    go_simp
    refine (cowithin_any pt C.v.length _ (by omega) (by omega) hpt).mono ?_
    rintro e _ ⟨rfl, rfl⟩
    rw [← HKK.out]
    have hT1 : ∀ k, looks [(1, fun z => Ext no w9 z), (4, fun z => Ext no w9 z), (9, fun z => Ext no w9 z)] k (w9.drew) := looks_all ⟨Ext.drew no w9, Ext.drew no w9, Ext.drew no w9, trivial⟩
    refine hK _ _ (looks [(1, fun z => Ext no w9 z), (4, fun z => Ext no w9 z), (9, fun z => Ext no w9 z)]) ⟨.inr (.inr (fun x h => h)), .inr (.inl (by kernel_rfl)), .inl (by kernel_rfl), trivial⟩ hT1 ?_
    clear hK K
    try simp only [pz]
    refine wpF_take 7 (v := .pointer (some ⟨sb, so + kk * 3, none⟩)) rfl (by kernel_rfl) (by kernel_rfl) (by kernel_rfl) (fun _ _ _ h => h) hT1 (by rfl) (by intro wq; go_simp) ?_
    simp only [pz]
    refine wpF_take 8 (v := ?_) rfl (by kernel_rfl) (by kernel_rfl) (by kernel_rfl) (fun _ _ _ h => h) hT1 (by rfl) ?_ ?_
    rotate_left
    · (intro wq; go_simp; try with_reducible rfl)
    simp only [pz]
    refine wpF_look 9 (v := .int .i64 x.seq) rfl rfl (by kernel_rfl) (by kernel_rfl) (by kernel_rfl) (by kernel_rfl) (fun _ _ _ h => h) hT1 (by rfl) (fun w hS => by have hS : Ext no w9 w := hS; have q0 := hS.keeps y2 (fun h => h); go_simp) ?_
    simp only [pz]
    refine wpF_take 10 (v := .int .i64 (Go.Esc.wrap64 (x.seq + 1))) rfl (by kernel_rfl) (by kernel_rfl) (by kernel_rfl) (fun _ _ _ h => h) hT1 (by rfl) (by intro wq; go_simp; rfl) ?_
    simp only [pz]
    refine wpF_take 11 (v := .pointer (some ⟨sb, so + kk * 3, none⟩)) rfl (by kernel_rfl) (by kernel_rfl) (by kernel_rfl) (fun _ _ _ h => h) hT1 (by rfl) (by intro wq; go_simp) ?_
    simp only [pz]
    refine wpF_take 12 (v := ?_) rfl (by kernel_rfl) (by kernel_rfl) (by kernel_rfl) (fun _ _ _ h => h) hT1 (by rfl) ?_ ?_
    rotate_left
    · (intro wq; go_simp; try with_reducible rfl)
    simp only [pz]
    refine wpF_exec 13 rfl (by kernel_rfl) (by rfl) ?_
    intro K hK
    go_simp
    have hT2 : ∀ k, looks [(1, fun z => True), (4, fun z => True), (9, fun z => True)] k ((w9.setCell ⟨sb, so + kk * 3 + 2, none⟩ (.int .i64 (Go.Esc.wrap64 (x.seq + 1)))).drew) := looks_all ⟨trivial, trivial, trivial, trivial⟩
    refine hK _ _ (looks [(1, fun z => True), (4, fun z => True), (9, fun z => True)]) ⟨.inr (.inl (by kernel_rfl)), .inr (.inl (by kernel_rfl)), .inr (.inl (by kernel_rfl)), trivial⟩ hT2 ?_
    clear hK K
    try simp only [pz]
    refine wpF_done (by kernel_rfl) ?_ _
    have hset := hmv.set (kk * 3 + 2) (by have := Nat.mul_le_mul_right 3 hkl; omega) (.int .i64 (Go.Esc.wrap64 (x.seq + 1)))
    rw [rows_setcell kEntry C.v kk x ⟨x.dev, x.ep, Go.Esc.wrap64 (x.seq + 1)⟩ hx 2 _ (by omega) rfl, Addr.add_lit, show so + (kk * 3 + 2) = so + kk * 3 + 2 by omega] at hset
    have hsB := hBh 0 ⟨sb, so, none⟩ Hsb.out
    simp only at hsB
    have hxs : Ext (blk hb.v) w9 (w9.setCell ⟨sb, so + kk * 3 + 2, none⟩ (.int .i64 (Go.Esc.wrap64 (x.seq + 1)))) := Ext.setCell _ _ _ ⟨_, Hsb.out, rfl⟩
    have hxd := Ext.drew no (w9.setCell ⟨sb, so + kk * 3 + 2, none⟩ (.int .i64 (Go.Esc.wrap64 (x.seq + 1))))
    have nb : ∀ q, q ≠ sb → ¬ blk hb.v q := fun q hq => by rintro ⟨ad, h, hh⟩; rw [Hsb.out] at h; cases h; exact hq hh.symm
    have hmB' : Mine ({ C with v := C.v.set kk ⟨x.dev, x.ep, Go.Esc.wrap64 (x.seq + 1)⟩ }) (w9.setCell ⟨sb, so + kk * 3 + 2, none⟩ (.int .i64 (Go.Esc.wrap64 (x.seq + 1)))) B5 { hb with v := some ⟨sb, so, none⟩ } := by have q := hmB.setV (l := C.v.set kk ⟨x.dev, x.ep, Go.Esc.wrap64 (x.seq + 1)⟩) (a := some ⟨sb, so, none⟩) (c := hb.vc) (by rw [List.length_set]) hset hxs (by intro ad h; exact .inl ⟨ad, by rw [Hsb.out]; exact h, rfl⟩); exact q
    have hmA' := hmA.ext hxs (fun i ad hi => nb _ (by have := hAh i ad hi; omega))
    replace hA := (hA.ext (by simp) hxs (nb _ (by omega))).drew
    replace hB := (hB.ext (by simp) hxs (nb _ (by omega))).drew
    have hW' := (hW.trans hxs (fun q hq => nb q (by omega))).comp hxd
    clear hmB hmA
    have hmB := hmB'.no hxd
    have hmA := hmA'.no hxd
    clear hW
    have hW := hW'
    have hne : C ≠ ({ C with v := C.v.set kk ⟨x.dev, x.ep, Go.Esc.wrap64 (x.seq + 1)⟩ } : CollR) := fun e => by
      have := congrArg (fun D : CollR => D.v[kk]?) e
      simp only [List.getElem?_set_self hkl, hx, Option.some.injEq] at this
      exact wrap_ne x.seq (congrArg DotR.seq this).symm
    have hsD : ({ C with v := C.v.set kk ⟨x.dev, x.ep, Go.Esc.wrap64 (x.seq + 1)⟩ } : CollR).small 1099511627776 := ⟨by simp; omega, hsC.r, hsC.e, hsC.g, hsC.s, hsC.b⟩
    clear b0 y2 fy hxs hset hxd hmB' hmA' hW' hmv nb
    rw [Hsb.out] at hB
    generalize (w9.setCell ⟨sb, so + kk * 3 + 2, none⟩ (.int .i64 (Go.Esc.wrap64 (x.seq + 1)))).drew = w11 at *
    have hl1 : (C.v.set kk (⟨x.dev, x.ep, Go.Esc.wrap64 (x.seq + 1)⟩ : DotR)).length = C.v.length := List.length_set
    obtain ⟨D, hD⟩ : ∃ D : CollR, D = { C with v := C.v.set kk ⟨x.dev, x.ep, Go.Esc.wrap64 (x.seq + 1)⟩ } := ⟨_, rfl⟩
    obtain ⟨h5, hh5⟩ : ∃ h5 : Six, h5 = { hb with v := some ⟨sb, so, none⟩ } := ⟨_, rfl⟩
    have hm5 : Mine D w11 B5 h5 := by rw [hD, hh5]; exact hmB
    have hB5 : Blk w11 gB [.slice h5.v D.v.length h5.vc, .slice h5.r D.regs.length h5.rc, .slice h5.e D.elems.length h5.ec, .slice h5.g D.gone.length h5.gc, .slice h5.s D.sums.length h5.sc, .slice h5.b D.binds.length h5.bc] := by rw [hD, hh5]; simp only [hl1]; exact hB
    rw [← hD] at hne hsD
    clear hB hmB hl1 hD hh5
    have hB := hB5
    clear hB5
    have hDin := hm5.isIn
    clear hm5
    have a0 := hA.cell 0 _ rfl
    have a1 := hA.cell 1 _ rfl
    have a2 := hA.cell 2 _ rfl
    have a3 := hA.cell 3 _ rfl
    have a4 := hA.cell 4 _ rfl
    have a5 := hA.cell 5 _ rfl
    have b0 := hB.cell 0 _ rfl
    have b1 := hB.cell 1 _ rfl
    have b2 := hB.cell 2 _ rfl
    have b3 := hB.cell 3 _ rfl
    have b4 := hB.cell 4 _ rfl
    have b5 := hB.cell 5 _ rfl
    go_wp2_with fail
    refine (same_any w11 C D ha h5 hmA.isIn hDin hsC hsD).mono ?_
    rintro e w12 ⟨r, rfl, hrr, hx12⟩
    have hrF : r = false := by
      cases r with
      | false => rfl
      | true => exact absurd (hrr.1 rfl) hne
    subst hrF
    clear hrr a0 a1 a2 a3 a4 a5 b0 b1 b2 b3 b4 b5
    replace hA := hA.ext (by simp) hx12 (fun h => h)
    replace hB := hB.ext (by simp) hx12 (fun h => h)
    replace hmA := hmA.no hx12
    replace hDin := hDin.ext hx12
    replace hW := hW.comp hx12
    clear hx12
    have a0 := hA.cell 0 _ rfl
    have a1 := hA.cell 1 _ rfl
    have a2 := hA.cell 2 _ rfl
    have a3 := hA.cell 3 _ rfl
    have a4 := hA.cell 4 _ rfl
    have a5 := hA.cell 5 _ rfl
    have b0 := hB.cell 0 _ rfl
    have b1 := hB.cell 1 _ rfl
    have b2 := hB.cell 2 _ rfl
    have b3 := hB.cell 3 _ rfl
    have b4 := hB.cell 4 _ rfl
    have b5 := hB.cell 5 _ rfl
    go_wp2_with fail
    refine (same_any w12 D C h5 ha hDin hmA.isIn hsD hsC).mono ?_
    rintro e w13 ⟨r, rfl, hrr, hx13⟩
    have hrF : r = false := by
      cases r with
      | false => rfl
      | true => exact absurd (hrr.1 rfl).symm hne
    subst hrF
    clear hrr a0 a1 a2 a3 a4 a5 b0 b1 b2 b3 b4 b5
    go_wp2_with fail
    go_ret
    exact ⟨rfl, hW.comp hx13⟩
end Go.Proofs.YtejmmkjpncpedaaGreat
