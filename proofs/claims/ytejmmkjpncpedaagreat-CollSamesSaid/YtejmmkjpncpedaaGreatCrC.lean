/- The reference's rem. -/
import Derived.Test.YtejmmkjpncpedaaGreatCrB
import Derived.Test.YtejmmkjpncpedaaGreatCoM
import Derived.Test.YtejmmkjpncpedaaGreatRowC
namespace Go.Proofs.YtejmmkjpncpedaaGreat
open Go.RowKit Go.Esc
set_option linter.unusedVariables false
set_option linter.unusedSimpArgs false
set_option maxRecDepth 100000 in
set_option maxHeartbeats 8000000 in
theorem refrem_any (w : World) (B : Nat) (C : CollR) (h : Six) (o : OpR) (a : Option Addr) (c : Nat) (hm : Mine C w B h) (hB : B ≤ w.heap.size) (hs : C.small 1099511627000) (hr0 : Rd w a (ds o.dots)) (h8 : o.dots.length ≤ 8) :
    Calls Tryz.prog 33 #[C.val h, o.v a c] w fun e w' => ∃ h', e = .returned (({ C with gone := refGones C.gone o.dots, elems := refLeft (refGones C.gone o.dots) C.elems } : CollR).val h') ∧ Mine { C with gone := refGones C.gone o.dots, elems := refLeft (refGones C.gone o.dots) C.elems } w' B h' ∧ (∀ i, Near (h.at i) w (h'.at i)) ∧ Ext no w w' := by
  have hr : Rd w a (rows DotR.cells o.dots) := hr0
  have hs3 := hs.g
  have hs2 := hs.e
  clear hr0 hs
  have HM := Lib.hid hm
  go_enter Tryz.func33, Tryz.ntmps33
  unfold CollR.val OpR.v
  go_upto_region 1 with fail
  have hC_ := Blk.at (w) #[.slice h.v C.v.length h.vc, .slice h.r C.regs.length h.rc, .slice h.e C.elems.length h.ec, .slice h.g C.gone.length h.gc, .slice h.s C.sums.length h.sc, .slice h.b C.binds.length h.bc] 32 (w.heap.size) (by simp)
  have hx_0 := Ext.alloc no (w) (.cells #[.slice h.v C.v.length h.vc, .slice h.r C.regs.length h.rc, .slice h.e C.elems.length h.ec, .slice h.g C.gone.length h.gc, .slice h.s C.sums.length h.sc, .slice h.b C.binds.length h.bc] 32)
  have hO_ := Blk.at (w.alloc (.cells #[.slice h.v C.v.length h.vc, .slice h.r C.regs.length h.rc, .slice h.e C.elems.length h.ec, .slice h.g C.gone.length h.gc, .slice h.s C.sums.length h.sc, .slice h.b C.binds.length h.bc] 32)) #[.int .i64 o.dot.dev, .int .i64 o.dot.ep, .int .i64 o.dot.seq, .int .i64 o.coll, .int .i64 o.ver, .int .i64 o.kind, .string (str o.key), .string (str o.text), .int .i64 o.n, .int .i64 o.time, .slice a o.dots.length c] 51 (w.heap.size + 1) (by simp)
  have hx_1 := Ext.alloc no (w.alloc (.cells #[.slice h.v C.v.length h.vc, .slice h.r C.regs.length h.rc, .slice h.e C.elems.length h.ec, .slice h.g C.gone.length h.gc, .slice h.s C.sums.length h.sc, .slice h.b C.binds.length h.bc] 32)) (.cells #[.int .i64 o.dot.dev, .int .i64 o.dot.ep, .int .i64 o.dot.seq, .int .i64 o.coll, .int .i64 o.ver, .int .i64 o.kind, .string (str o.key), .string (str o.text), .int .i64 o.n, .int .i64 o.time, .slice a o.dots.length c] 51)
  have hR_ := Blk.at ((w.alloc (.cells #[.slice h.v C.v.length h.vc, .slice h.r C.regs.length h.rc, .slice h.e C.elems.length h.ec, .slice h.g C.gone.length h.gc, .slice h.s C.sums.length h.sc, .slice h.b C.binds.length h.bc] 32)).alloc (.cells #[.int .i64 o.dot.dev, .int .i64 o.dot.ep, .int .i64 o.dot.seq, .int .i64 o.coll, .int .i64 o.ver, .int .i64 o.kind, .string (str o.key), .string (str o.text), .int .i64 o.n, .int .i64 o.time, .slice a o.dots.length c] 51)) #[.slice none 0 0, .slice none 0 0, .slice none 0 0, .slice none 0 0, .slice none 0 0, .slice none 0 0] 32 (w.heap.size + 1 + 1) (by simp)
  have hx_2 := Ext.alloc no ((w.alloc (.cells #[.slice h.v C.v.length h.vc, .slice h.r C.regs.length h.rc, .slice h.e C.elems.length h.ec, .slice h.g C.gone.length h.gc, .slice h.s C.sums.length h.sc, .slice h.b C.binds.length h.bc] 32)).alloc (.cells #[.int .i64 o.dot.dev, .int .i64 o.dot.ep, .int .i64 o.dot.seq, .int .i64 o.coll, .int .i64 o.ver, .int .i64 o.kind, .string (str o.key), .string (str o.text), .int .i64 o.n, .int .i64 o.time, .slice a o.dots.length c] 51)) (.cells #[.slice none 0 0, .slice none 0 0, .slice none 0 0, .slice none 0 0, .slice none 0 0, .slice none 0 0] 32)
  have hC := (hC_.ext (by simp) hx_1 (fun h => h)).ext (by simp) hx_2 (fun h => h)
  have hO := hO_.ext (by simp) hx_2 (fun h => h)
  have hR := hR_
  have hx1 := ((hx_0).comp hx_1).comp hx_2
  clear hC_ hx_0 hO_ hx_1 hR_ hx_2
  generalize ((w.alloc (.cells #[.slice h.v C.v.length h.vc, .slice h.r C.regs.length h.rc, .slice h.e C.elems.length h.ec, .slice h.g C.gone.length h.gc, .slice h.s C.sums.length h.sc, .slice h.b C.binds.length h.bc] 32)).alloc (.cells #[.int .i64 o.dot.dev, .int .i64 o.dot.ep, .int .i64 o.dot.seq, .int .i64 o.coll, .int .i64 o.ver, .int .i64 o.kind, .string (str o.key), .string (str o.text), .int .i64 o.n, .int .i64 o.time, .slice a o.dots.length c] 51)).alloc (.cells #[.slice none 0 0, .slice none 0 0, .slice none 0 0, .slice none 0 0, .slice none 0 0, .slice none 0 0] 32) = w1 at *
  have hsz := hR.lt (by simp)
  obtain ⟨g, hg⟩ : ∃ g, g = w.heap.size := ⟨_, rfl⟩
  have hgw : w.heap.size ≤ g := by omega
  rw [← hg] at hC hO hR hsz ⊢
  clear hg
  have hW := hx1
  have hg0 := hm.g.ext hx1 (fun _ _ h => h)
  clear hm
  have hgs : ∀ ad, h.g = some ad → ad.block < w.heap.size := fun ad ha => (HM.out.g.base ad ha).2.1
  go_wp2_with fail
  go_loopw [5] (fun s5 wr => ∃ (i : Nat) (G : List DotR) (ga : Option Addr) (gc : Nat), s5 = .int .i64 i ∧ i ≤ o.dots.length ∧ G = refGones C.gone (o.dots.take i) ∧ Blk wr g [.slice h.v C.v.length h.vc, .slice h.r C.regs.length h.rc, .slice h.e C.elems.length h.ec, .slice ga G.length gc, .slice h.s C.sums.length h.sc, .slice h.b C.binds.length h.bc] ∧ Blk wr (g + 1) [.int .i64 o.dot.dev, .int .i64 o.dot.ep, .int .i64 o.dot.seq, .int .i64 o.coll, .int .i64 o.ver, .int .i64 o.kind, .string (str o.key), .string (str o.text), .int .i64 o.n, .int .i64 o.time, .slice a o.dots.length c] ∧ Blk wr (g + 1 + 1) [.slice none 0 0, .slice none 0 0, .slice none 0 0, .slice none 0 0, .slice none 0 0, .slice none 0 0] ∧ Own wr B ga 3 G.length gc (rows DotR.cells G) ∧ (∀ ad, ga = some ad → blk h.g ad.block ∨ g + 1 + 1 < ad.block) ∧ Ext no w wr) (fun s5 _ => o.dots.length - (intOf s5).toNat)
  case atStart => exact ⟨0, C.gone, h.g, h.gc, rfl, Nat.zero_le _, rfl, hC, hO, hR, hg0, (fun ad ha => .inl ⟨ad, ha, rfl⟩), hx1⟩
  case round =>
    clear hC hO hR hW hg0 hx1 hsz
    obtain ⟨i, G, ga, gc, rfl, hin0, hG, hC, hO, hR, hg, hga, hW⟩ := hrel
    have hGl : G.length ≤ C.gone.length + 8 := by rw [hG]; have := refGones_len (o.dots.take i) C.gone; rw [List.length_take] at this; omega
    have HG := Lib.hid hG
    clear hG
    have hgc := hg.nc
    have q10 := hO.cell 10 _ rfl
    have hRl := hR.lt (by simp)
    by_cases hin : i < o.dots.length
    · have d1 : decide (i < o.dots.length) = true := decT hin
      obtain ⟨d, hdm⟩ : ∃ d, o.dots[i]? = some d := ⟨_, List.getElem?_eq_getElem hin⟩
      have htk : o.dots.take (i + 1) = o.dots.take i ++ [d] := by rw [List.take_succ_eq_append_getElem hin, (List.getElem?_eq_some_iff.1 hdm).2]
      have HN := Lib.hid (show refGones C.gone (o.dots.take (i + 1)) = refGone G d by rw [htk, refGones_snoc, ← HG.out])
      clear htk
      obtain ⟨db, dof, hda, _⟩ := rows_shape kDot (by omega) hr (by omega)
      subst hda
      have hrr := hr.no hW
      have y0 : wr.cell? ⟨db, dof + i * 3, none⟩ = some (.int .i64 d.dev) := rows_cell kDot hrr hdm 0 _ rfl
      have y1 : wr.cell? ⟨db, dof + i * 3 + 1, none⟩ = some (.int .i64 d.ep) := rows_cell kDot hrr hdm 1 _ rfl
      have y2 : wr.cell? ⟨db, dof + i * 3 + 2, none⟩ = some (.int .i64 d.seq) := rows_cell kDot hrr hdm 2 _ rfl
      clear hrr
      have c3 := hC.cell 3 _ rfl
      go_upto_region 4 with fail
      cases hi : refIn G d with
      | true =>
        have HN2 := Lib.hid (show G = refGones C.gone (o.dots.take (i + 1)) by rw [HN.out]; unfold refGone; rw [if_pos hi])
        refine wp_region_F [1, 3, 6] (looks [(1, fun z => Ext no wr z), (3, fun z => Ext no wr z), (6, fun z => Ext no wr z)]) (by kernel_rfl) ?_
        have hT0 : ∀ k, looks [(1, fun z => Ext no wr z), (3, fun z => Ext no wr z), (6, fun z => Ext no wr z)] k (wr.drew) := looks_all ⟨Ext.drew no wr, Ext.drew no wr, Ext.drew no wr, trivial⟩
        refine wpF_take 0 (v := ?_) rfl (by kernel_rfl) (by kernel_rfl) (by kernel_rfl) (fun _ _ _ h => h) hT0 (by rfl) ?_ ?_
        rotate_left
        · (intro wq; go_simp; try with_reducible rfl)
        simp only [pz]
        refine wpF_look 1 (v := .slice ga G.length gc) rfl rfl (by kernel_rfl) (by kernel_rfl) (by kernel_rfl) (by kernel_rfl) (fun _ _ _ h => h) hT0 (by rfl) (fun w hS => by have hS : Ext no wr w := hS; have q0 := hS.keeps c3 (fun h => h); go_simp) ?_
        simp only [pz]
        refine wpF_take 2 (v := ?_) rfl (by kernel_rfl) (by kernel_rfl) (by kernel_rfl) (fun _ _ _ h => h) hT0 (by rfl) ?_ ?_
        rotate_left
        · (intro wq; go_simp; try with_reducible rfl)
        simp only [pz]
        refine wpF_look 3 (v := .slice (some ⟨db, dof, none⟩) o.dots.length c) rfl rfl (by kernel_rfl) (by kernel_rfl) (by kernel_rfl) (by kernel_rfl) (fun _ _ _ h => h) hT0 (by rfl) (fun w hS => by have hS : Ext no wr w := hS; have q0 := hS.keeps q10 (fun h => h); go_simp) ?_
        simp only [pz]
        refine wpF_take 4 (v := ?_) rfl (by kernel_rfl) (by kernel_rfl) (by kernel_rfl) (fun _ _ _ h => h) hT0 (by rfl) ?_ ?_
        rotate_left
        · (intro wq; go_simp; try with_reducible rfl)
        simp only [pz]
        refine wpF_take 5 (v := .pointer (some ⟨db, dof + i * 3, none⟩)) rfl (by kernel_rfl) (by kernel_rfl) (by kernel_rfl) (fun _ _ _ h => h) hT0 (by rfl) (by intro wq; go_simp) ?_
        simp only [pz]
        refine wpF_look 6 (v := .agg #[.int .i64 d.dev, .int .i64 d.ep, .int .i64 d.seq]) rfl rfl (by kernel_rfl) (by kernel_rfl) (by kernel_rfl) (by kernel_rfl) (fun _ _ _ h => h) hT0 (by rfl) (fun w hS => by have hS : Ext no wr w := hS; have q0 := hS.keeps y0 (fun h => h); have q1 := hS.keeps y1 (fun h => h); have q2 := hS.keeps y2 (fun h => h); go_simp) ?_
        simp only [pz]
        refine wpF_exec 7 rfl (by kernel_rfl) (by rfl) ?_
        intro K hK
        go_simp
        refine (in_any _ ga G gc d (hg.rd.ext (Ext.drew no wr) (fun _ _ h => h)) (by omega)).mono ?_
        rintro e w3 ⟨rfl, hx3⟩
        rw [hi]
        have hT1 : ∀ k, looks [(1, fun z => Ext no wr z), (3, fun z => Ext no wr z), (6, fun z => Ext no wr z)] k (w3) := looks_all ⟨(Ext.drew no wr).comp hx3, (Ext.drew no wr).comp hx3, (Ext.drew no wr).comp hx3, trivial⟩
        refine hK _ _ (looks [(1, fun z => Ext no wr z), (3, fun z => Ext no wr z), (6, fun z => Ext no wr z)]) ⟨.inr (.inl (by kernel_rfl)), .inr (.inl (by kernel_rfl)), .inr (.inl (by kernel_rfl)), trivial⟩ hT1 ?_
        clear hK K
        try simp only [pz]
        replace hx3 := (Ext.drew no wr).comp hx3
        refine wpF_done (by kernel_rfl) ?_ _
        clear q10 c3 y0 y1 y2
        replace hW := hW.comp hx3
        replace hC := hC.ext (by simp) hx3 (fun h => h)
        replace hO := hO.ext (by simp) hx3 (fun h => h)
        replace hR := hR.ext (by simp) hx3 (fun h => h)
        replace hg := hg.ext hx3 (fun _ _ h => h)
        clear hx3
        go_wp2_with fail
        go_roundw
        case rel => exact ⟨i + 1, G, ga, gc, by go_num, by omega, HN2.out, hC, hO, hR, hg, hga, hW⟩
        case measure => simp [intOf]; omega
      | false =>
        obtain ⟨P, hP⟩ : ∃ P, P = posOf (fun x => x) DotR.lt d G := ⟨_, rfl⟩
        have hPl : P ≤ G.length := by rw [hP]; exact posOf_le _ _
        have HL := Lib.hid (show ∀ (j : Nat) x, j < P → G[j]? = some x → DotR.lt x d = true by rw [hP]; exact pos_lt (κ := fun x => x) _ _)
        have HA := Lib.hid (show ∀ x, G[P]? = some x → DotR.lt x d = false by rw [hP]; exact pos_at (κ := fun x => x) _ _)
        have HN2 := Lib.hid (show splice G P P d = refGones C.gone (o.dots.take (i + 1)) by rw [HN.out]; unfold refGone refGoneP; rw [if_neg (by rw [hi]; simp), ← hP])
        clear hP
        refine wp_region_F [1, 3, 6] (looks [(1, fun z => Ext no wr z), (3, fun z => Ext no wr z), (6, fun z => Ext no wr z)]) (by kernel_rfl) ?_
        have hT0 : ∀ k, looks [(1, fun z => Ext no wr z), (3, fun z => Ext no wr z), (6, fun z => Ext no wr z)] k (wr.drew) := looks_all ⟨Ext.drew no wr, Ext.drew no wr, Ext.drew no wr, trivial⟩
        refine wpF_take 0 (v := ?_) rfl (by kernel_rfl) (by kernel_rfl) (by kernel_rfl) (fun _ _ _ h => h) hT0 (by rfl) ?_ ?_
        rotate_left
        · (intro wq; go_simp; try with_reducible rfl)
        simp only [pz]
        refine wpF_look 1 (v := .slice ga G.length gc) rfl rfl (by kernel_rfl) (by kernel_rfl) (by kernel_rfl) (by kernel_rfl) (fun _ _ _ h => h) hT0 (by rfl) (fun w hS => by have hS : Ext no wr w := hS; have q0 := hS.keeps c3 (fun h => h); go_simp) ?_
        simp only [pz]
        refine wpF_take 2 (v := ?_) rfl (by kernel_rfl) (by kernel_rfl) (by kernel_rfl) (fun _ _ _ h => h) hT0 (by rfl) ?_ ?_
        rotate_left
        · (intro wq; go_simp; try with_reducible rfl)
        simp only [pz]
        refine wpF_look 3 (v := .slice (some ⟨db, dof, none⟩) o.dots.length c) rfl rfl (by kernel_rfl) (by kernel_rfl) (by kernel_rfl) (by kernel_rfl) (fun _ _ _ h => h) hT0 (by rfl) (fun w hS => by have hS : Ext no wr w := hS; have q0 := hS.keeps q10 (fun h => h); go_simp) ?_
        simp only [pz]
        refine wpF_take 4 (v := ?_) rfl (by kernel_rfl) (by kernel_rfl) (by kernel_rfl) (fun _ _ _ h => h) hT0 (by rfl) ?_ ?_
        rotate_left
        · (intro wq; go_simp; try with_reducible rfl)
        simp only [pz]
        refine wpF_take 5 (v := .pointer (some ⟨db, dof + i * 3, none⟩)) rfl (by kernel_rfl) (by kernel_rfl) (by kernel_rfl) (fun _ _ _ h => h) hT0 (by rfl) (by intro wq; go_simp) ?_
        simp only [pz]
        refine wpF_look 6 (v := .agg #[.int .i64 d.dev, .int .i64 d.ep, .int .i64 d.seq]) rfl rfl (by kernel_rfl) (by kernel_rfl) (by kernel_rfl) (by kernel_rfl) (fun _ _ _ h => h) hT0 (by rfl) (fun w hS => by have hS : Ext no wr w := hS; have q0 := hS.keeps y0 (fun h => h); have q1 := hS.keeps y1 (fun h => h); have q2 := hS.keeps y2 (fun h => h); go_simp) ?_
        simp only [pz]
        refine wpF_exec 7 rfl (by kernel_rfl) (by rfl) ?_
        intro K hK
        go_simp
        refine (in_any _ ga G gc d (hg.rd.ext (Ext.drew no wr) (fun _ _ h => h)) (by omega)).mono ?_
        rintro e w3 ⟨rfl, hx3⟩
        rw [hi]
        have hT1 : ∀ k, looks [(1, fun z => Ext no wr z), (3, fun z => Ext no wr z), (6, fun z => Ext no wr z)] k (w3) := looks_all ⟨(Ext.drew no wr).comp hx3, (Ext.drew no wr).comp hx3, (Ext.drew no wr).comp hx3, trivial⟩
        refine hK _ _ (looks [(1, fun z => Ext no wr z), (3, fun z => Ext no wr z), (6, fun z => Ext no wr z)]) ⟨.inr (.inl (by kernel_rfl)), .inr (.inl (by kernel_rfl)), .inr (.inl (by kernel_rfl)), trivial⟩ hT1 ?_
        clear hK K
        try simp only [pz]
        replace hx3 := (Ext.drew no wr).comp hx3
        refine wpF_done (by kernel_rfl) ?_ _
        clear q10 c3 y0 y1 y2
        replace hW := hW.comp hx3
        replace hC := hC.ext (by simp) hx3 (fun h => h)
        replace hO := hO.ext (by simp) hx3 (fun h => h)
        replace hR := hR.ext (by simp) hx3 (fun h => h)
        replace hg := hg.ext hx3 (fun _ _ h => h)
        clear hx3
        go_wp2_with fail
        go_loopw [6] (fun s6 wr => ∃ k : Nat, s6 = .int .i64 k ∧ k ≤ P ∧ Ext no w3 wr) (fun s6 _ => G.length - (intOf s6).toNat)
        case atStart => exact ⟨0, rfl, Nat.zero_le _, Ext.refl _ _⟩
        case round =>
          obtain ⟨k, rfl, hkP, hx⟩ := hrel
          have hx0 := hx
          replace hW := hW.comp hx
          replace hC := hC.ext (by simp) hx (fun h => h)
          replace hO := hO.ext (by simp) hx (fun h => h)
          replace hR := hR.ext (by simp) hx (fun h => h)
          replace hg := hg.ext hx (fun _ _ h => h)
          clear hx
          have c3 := hC.cell 3 _ rfl
          have q10 := hO.cell 10 _ rfl
          have hrr := hr.no hW
          have y0 : wr.cell? ⟨db, dof + i * 3, none⟩ = some (.int .i64 d.dev) := rows_cell kDot hrr hdm 0 _ rfl
          have y1 : wr.cell? ⟨db, dof + i * 3 + 1, none⟩ = some (.int .i64 d.ep) := rows_cell kDot hrr hdm 1 _ rfl
          have y2 : wr.cell? ⟨db, dof + i * 3 + 2, none⟩ = some (.int .i64 d.seq) := rows_cell kDot hrr hdm 2 _ rfl
          clear hrr
          by_cases hk : k < P
          · have hkl : k < G.length := by omega
            have e1 : decide (k < G.length) = true := decT hkl
            obtain ⟨x, hxm⟩ : ∃ x, G[k]? = some x := ⟨_, List.getElem?_eq_getElem hkl⟩
            have hlx : DotR.lt x d = true := HL.out k x hk hxm
            have hgk := hg.rd
            obtain ⟨gb, go, hgg, _⟩ := rows_shape kDot (by omega) hgk (by omega)
            rw [hgg] at hgk
            have z0 : wr.cell? ⟨gb, go + k * 3, none⟩ = some (.int .i64 x.dev) := rows_cell kDot hgk hxm 0 _ rfl
            have z1 : wr.cell? ⟨gb, go + k * 3 + 1, none⟩ = some (.int .i64 x.ep) := rows_cell kDot hgk hxm 1 _ rfl
            have z2 : wr.cell? ⟨gb, go + k * 3 + 2, none⟩ = some (.int .i64 x.seq) := rows_cell kDot hgk hxm 2 _ rfl
            have c3' := c3
            rw [hgg] at c3'
            have Hgg := Lib.hid hgg
            clear hgg c3
            go_upto_region 6 with fail
            refine wp_region_F [2, 7, 10, 12, 15] (looks [(2, fun z => Ext no wr z), (7, fun z => Ext no wr z), (10, fun z => Ext no wr z), (12, fun z => Ext no wr z), (15, fun z => Ext no wr z)]) (by kernel_rfl) ?_
            have hT0 : ∀ k, looks [(2, fun z => Ext no wr z), (7, fun z => Ext no wr z), (10, fun z => Ext no wr z), (12, fun z => Ext no wr z), (15, fun z => Ext no wr z)] k (wr.drew) := looks_all ⟨Ext.drew no wr, Ext.drew no wr, Ext.drew no wr, Ext.drew no wr, Ext.drew no wr, trivial⟩
            refine wpF_take 0 (v := ?_) rfl (by kernel_rfl) (by kernel_rfl) (by kernel_rfl) (fun _ _ _ h => h) hT0 (by rfl) ?_ ?_
            rotate_left
            · (intro wq; go_simp; try with_reducible rfl)
            simp only [pz]
            refine wpF_take 1 (v := ?_) rfl (by kernel_rfl) (by kernel_rfl) (by kernel_rfl) (fun _ _ _ h => h) hT0 (by rfl) ?_ ?_
            rotate_left
            · (intro wq; go_simp; try with_reducible rfl)
            simp only [pz]
            refine wpF_look 2 (v := .slice (some ⟨gb, go, none⟩) G.length gc) rfl rfl (by kernel_rfl) (by kernel_rfl) (by kernel_rfl) (by kernel_rfl) (fun _ _ _ h => h) hT0 (by rfl) (fun w hS => by have hS : Ext no wr w := hS; have q0 := hS.keeps c3' (fun h => h); go_simp) ?_
            simp only [pz]
            refine wpF_take 3 (v := ?_) rfl (by kernel_rfl) (by kernel_rfl) (by kernel_rfl) (fun _ _ _ h => h) hT0 (by rfl) ?_ ?_
            rotate_left
            · (intro wq; go_simp; try with_reducible rfl)
            simp only [pz]
            refine wpF_take 4 (v := .bool true) rfl (by kernel_rfl) (by kernel_rfl) (by kernel_rfl) (fun _ _ _ h => h) hT0 (by rfl) (by intro wq; go_simp; first | done | rfl) ?_
            simp only [pz]
            refine wpF_take 5 (v := ?_) rfl (by kernel_rfl) (by kernel_rfl) (by kernel_rfl) (fun _ _ _ h => h) hT0 (by rfl) ?_ ?_
            rotate_left
            · (intro wq; go_simp; try with_reducible rfl)
            simp only [pz]
            refine wpF_take 6 (v := ?_) rfl (by kernel_rfl) (by kernel_rfl) (by kernel_rfl) (fun _ _ _ h => h) hT0 (by rfl) ?_ ?_
            rotate_left
            · (intro wq; go_simp; try with_reducible rfl)
            simp only [pz]
            refine wpF_look 7 (v := .slice (some ⟨gb, go, none⟩) G.length gc) rfl rfl (by kernel_rfl) (by kernel_rfl) (by kernel_rfl) (by kernel_rfl) (fun _ _ _ h => h) hT0 (by rfl) (fun w hS => by have hS : Ext no wr w := hS; have q0 := hS.keeps c3' (fun h => h); go_simp) ?_
            simp only [pz]
            refine wpF_take 8 (v := ?_) rfl (by kernel_rfl) (by kernel_rfl) (by kernel_rfl) (fun _ _ _ h => h) hT0 (by rfl) ?_ ?_
            rotate_left
            · (intro wq; go_simp; try with_reducible rfl)
            simp only [pz]
            refine wpF_take 9 (v := .pointer (some ⟨gb, go + k * 3, none⟩)) rfl (by kernel_rfl) (by kernel_rfl) (by kernel_rfl) (fun _ _ _ h => h) hT0 (by rfl) (by intro wq; go_simp) ?_
            simp only [pz]
            refine wpF_look 10 (v := .agg #[.int .i64 x.dev, .int .i64 x.ep, .int .i64 x.seq]) rfl rfl (by kernel_rfl) (by kernel_rfl) (by kernel_rfl) (by kernel_rfl) (fun _ _ _ h => h) hT0 (by rfl) (fun w hS => by have hS : Ext no wr w := hS; have q0 := hS.keeps z0 (fun h => h); have q1 := hS.keeps z1 (fun h => h); have q2 := hS.keeps z2 (fun h => h); go_simp) ?_
            simp only [pz]
            refine wpF_take 11 (v := ?_) rfl (by kernel_rfl) (by kernel_rfl) (by kernel_rfl) (fun _ _ _ h => h) hT0 (by rfl) ?_ ?_
            rotate_left
            · (intro wq; go_simp; try with_reducible rfl)
            simp only [pz]
            refine wpF_look 12 (v := .slice (some ⟨db, dof, none⟩) o.dots.length c) rfl rfl (by kernel_rfl) (by kernel_rfl) (by kernel_rfl) (by kernel_rfl) (fun _ _ _ h => h) hT0 (by rfl) (fun w hS => by have hS : Ext no wr w := hS; have q0 := hS.keeps q10 (fun h => h); go_simp) ?_
            simp only [pz]
            refine wpF_take 13 (v := ?_) rfl (by kernel_rfl) (by kernel_rfl) (by kernel_rfl) (fun _ _ _ h => h) hT0 (by rfl) ?_ ?_
            rotate_left
            · (intro wq; go_simp; try with_reducible rfl)
            simp only [pz]
            refine wpF_take 14 (v := .pointer (some ⟨db, dof + i * 3, none⟩)) rfl (by kernel_rfl) (by kernel_rfl) (by kernel_rfl) (fun _ _ _ h => h) hT0 (by rfl) (by intro wq; go_simp) ?_
            simp only [pz]
            refine wpF_look 15 (v := .agg #[.int .i64 d.dev, .int .i64 d.ep, .int .i64 d.seq]) rfl rfl (by kernel_rfl) (by kernel_rfl) (by kernel_rfl) (by kernel_rfl) (fun _ _ _ h => h) hT0 (by rfl) (fun w hS => by have hS : Ext no wr w := hS; have q0 := hS.keeps y0 (fun h => h); have q1 := hS.keeps y1 (fun h => h); have q2 := hS.keeps y2 (fun h => h); go_simp) ?_
            simp only [pz]
            refine wpF_exec 16 rfl (by kernel_rfl) (by rfl) ?_
            intro K hK
            go_simp
            refine (less_any _ x d).mono ?_
            rintro e w3 ⟨rfl, hx3⟩
            rw [hlx]
            have hT1 : ∀ k, looks [(2, fun z => Ext no wr z), (7, fun z => Ext no wr z), (10, fun z => Ext no wr z), (12, fun z => Ext no wr z), (15, fun z => Ext no wr z)] k (w3) := looks_all ⟨(Ext.drew no wr).comp hx3, (Ext.drew no wr).comp hx3, (Ext.drew no wr).comp hx3, (Ext.drew no wr).comp hx3, (Ext.drew no wr).comp hx3, trivial⟩
            refine hK _ _ (looks [(2, fun z => Ext no wr z), (7, fun z => Ext no wr z), (10, fun z => Ext no wr z), (12, fun z => Ext no wr z), (15, fun z => Ext no wr z)]) ⟨.inr (.inl (by kernel_rfl)), .inr (.inl (by kernel_rfl)), .inr (.inl (by kernel_rfl)), .inr (.inl (by kernel_rfl)), .inr (.inl (by kernel_rfl)), trivial⟩ hT1 ?_
            clear hK K
            try simp only [pz]
            replace hx3 := (Ext.drew no wr).comp hx3
            refine wpF_take 17 (v := ?_) rfl (by kernel_rfl) (by kernel_rfl) (by kernel_rfl) (fun _ _ _ h => h) hT1 (by rfl) ?_ ?_
            rotate_left
            · (intro wq; go_simp; try with_reducible rfl)
            simp only [pz]
            refine wpF_done (by kernel_rfl) ?_ _
            go_wp2_with fail
            go_roundw
            case rel => exact ⟨k + 1, by go_num, by omega, hx0.comp hx3⟩
            case measure => simp [intOf]; omega
          · have hkE : k = P := by omega
            subst hkE
            clear hx0 hk hkP
            by_cases hkl : k < G.length
            · have e1 : decide (k < G.length) = true := decT hkl
              obtain ⟨x, hxm⟩ : ∃ x, G[k]? = some x := ⟨_, List.getElem?_eq_getElem hkl⟩
              have hlx : DotR.lt x d = false := HA.out x hxm
              have hgk := hg.rd
              obtain ⟨gb, go, hgg, _⟩ := rows_shape kDot (by omega) hgk (by omega)
              rw [hgg] at hgk
              have z0 : wr.cell? ⟨gb, go + k * 3, none⟩ = some (.int .i64 x.dev) := rows_cell kDot hgk hxm 0 _ rfl
              have z1 : wr.cell? ⟨gb, go + k * 3 + 1, none⟩ = some (.int .i64 x.ep) := rows_cell kDot hgk hxm 1 _ rfl
              have z2 : wr.cell? ⟨gb, go + k * 3 + 2, none⟩ = some (.int .i64 x.seq) := rows_cell kDot hgk hxm 2 _ rfl
              have c3' := c3
              rw [hgg] at c3'
              have Hgg := Lib.hid hgg
              clear hgg c3
              go_upto_region 6 with fail
              refine wp_region_F [2, 7, 10, 12, 15] (looks [(2, fun z => Ext no wr z), (7, fun z => Ext no wr z), (10, fun z => Ext no wr z), (12, fun z => Ext no wr z), (15, fun z => Ext no wr z)]) (by kernel_rfl) ?_
              have hT0 : ∀ k, looks [(2, fun z => Ext no wr z), (7, fun z => Ext no wr z), (10, fun z => Ext no wr z), (12, fun z => Ext no wr z), (15, fun z => Ext no wr z)] k (wr.drew) := looks_all ⟨Ext.drew no wr, Ext.drew no wr, Ext.drew no wr, Ext.drew no wr, Ext.drew no wr, trivial⟩
              refine wpF_take 0 (v := ?_) rfl (by kernel_rfl) (by kernel_rfl) (by kernel_rfl) (fun _ _ _ h => h) hT0 (by rfl) ?_ ?_
              rotate_left
              · (intro wq; go_simp; try with_reducible rfl)
              simp only [pz]
              refine wpF_take 1 (v := ?_) rfl (by kernel_rfl) (by kernel_rfl) (by kernel_rfl) (fun _ _ _ h => h) hT0 (by rfl) ?_ ?_
              rotate_left
              · (intro wq; go_simp; try with_reducible rfl)
              simp only [pz]
              refine wpF_look 2 (v := .slice (some ⟨gb, go, none⟩) G.length gc) rfl rfl (by kernel_rfl) (by kernel_rfl) (by kernel_rfl) (by kernel_rfl) (fun _ _ _ h => h) hT0 (by rfl) (fun w hS => by have hS : Ext no wr w := hS; have q0 := hS.keeps c3' (fun h => h); go_simp) ?_
              simp only [pz]
              refine wpF_take 3 (v := ?_) rfl (by kernel_rfl) (by kernel_rfl) (by kernel_rfl) (fun _ _ _ h => h) hT0 (by rfl) ?_ ?_
              rotate_left
              · (intro wq; go_simp; try with_reducible rfl)
              simp only [pz]
              refine wpF_take 4 (v := .bool true) rfl (by kernel_rfl) (by kernel_rfl) (by kernel_rfl) (fun _ _ _ h => h) hT0 (by rfl) (by intro wq; go_simp; first | done | rfl) ?_
              simp only [pz]
              refine wpF_take 5 (v := ?_) rfl (by kernel_rfl) (by kernel_rfl) (by kernel_rfl) (fun _ _ _ h => h) hT0 (by rfl) ?_ ?_
              rotate_left
              · (intro wq; go_simp; try with_reducible rfl)
              simp only [pz]
              refine wpF_take 6 (v := ?_) rfl (by kernel_rfl) (by kernel_rfl) (by kernel_rfl) (fun _ _ _ h => h) hT0 (by rfl) ?_ ?_
              rotate_left
              · (intro wq; go_simp; try with_reducible rfl)
              simp only [pz]
              refine wpF_look 7 (v := .slice (some ⟨gb, go, none⟩) G.length gc) rfl rfl (by kernel_rfl) (by kernel_rfl) (by kernel_rfl) (by kernel_rfl) (fun _ _ _ h => h) hT0 (by rfl) (fun w hS => by have hS : Ext no wr w := hS; have q0 := hS.keeps c3' (fun h => h); go_simp) ?_
              simp only [pz]
              refine wpF_take 8 (v := ?_) rfl (by kernel_rfl) (by kernel_rfl) (by kernel_rfl) (fun _ _ _ h => h) hT0 (by rfl) ?_ ?_
              rotate_left
              · (intro wq; go_simp; try with_reducible rfl)
              simp only [pz]
              refine wpF_take 9 (v := .pointer (some ⟨gb, go + k * 3, none⟩)) rfl (by kernel_rfl) (by kernel_rfl) (by kernel_rfl) (fun _ _ _ h => h) hT0 (by rfl) (by intro wq; go_simp) ?_
              simp only [pz]
              refine wpF_look 10 (v := .agg #[.int .i64 x.dev, .int .i64 x.ep, .int .i64 x.seq]) rfl rfl (by kernel_rfl) (by kernel_rfl) (by kernel_rfl) (by kernel_rfl) (fun _ _ _ h => h) hT0 (by rfl) (fun w hS => by have hS : Ext no wr w := hS; have q0 := hS.keeps z0 (fun h => h); have q1 := hS.keeps z1 (fun h => h); have q2 := hS.keeps z2 (fun h => h); go_simp) ?_
              simp only [pz]
              refine wpF_take 11 (v := ?_) rfl (by kernel_rfl) (by kernel_rfl) (by kernel_rfl) (fun _ _ _ h => h) hT0 (by rfl) ?_ ?_
              rotate_left
              · (intro wq; go_simp; try with_reducible rfl)
              simp only [pz]
              refine wpF_look 12 (v := .slice (some ⟨db, dof, none⟩) o.dots.length c) rfl rfl (by kernel_rfl) (by kernel_rfl) (by kernel_rfl) (by kernel_rfl) (fun _ _ _ h => h) hT0 (by rfl) (fun w hS => by have hS : Ext no wr w := hS; have q0 := hS.keeps q10 (fun h => h); go_simp) ?_
              simp only [pz]
              refine wpF_take 13 (v := ?_) rfl (by kernel_rfl) (by kernel_rfl) (by kernel_rfl) (fun _ _ _ h => h) hT0 (by rfl) ?_ ?_
              rotate_left
              · (intro wq; go_simp; try with_reducible rfl)
              simp only [pz]
              refine wpF_take 14 (v := .pointer (some ⟨db, dof + i * 3, none⟩)) rfl (by kernel_rfl) (by kernel_rfl) (by kernel_rfl) (fun _ _ _ h => h) hT0 (by rfl) (by intro wq; go_simp) ?_
              simp only [pz]
              refine wpF_look 15 (v := .agg #[.int .i64 d.dev, .int .i64 d.ep, .int .i64 d.seq]) rfl rfl (by kernel_rfl) (by kernel_rfl) (by kernel_rfl) (by kernel_rfl) (fun _ _ _ h => h) hT0 (by rfl) (fun w hS => by have hS : Ext no wr w := hS; have q0 := hS.keeps y0 (fun h => h); have q1 := hS.keeps y1 (fun h => h); have q2 := hS.keeps y2 (fun h => h); go_simp) ?_
              simp only [pz]
              refine wpF_exec 16 rfl (by kernel_rfl) (by rfl) ?_
              intro K hK
              go_simp
              refine (less_any _ x d).mono ?_
              rintro e w3 ⟨rfl, hx3⟩
              rw [hlx]
              have hT1 : ∀ k, looks [(2, fun z => Ext no wr z), (7, fun z => Ext no wr z), (10, fun z => Ext no wr z), (12, fun z => Ext no wr z), (15, fun z => Ext no wr z)] k (w3) := looks_all ⟨(Ext.drew no wr).comp hx3, (Ext.drew no wr).comp hx3, (Ext.drew no wr).comp hx3, (Ext.drew no wr).comp hx3, (Ext.drew no wr).comp hx3, trivial⟩
              refine hK _ _ (looks [(2, fun z => Ext no wr z), (7, fun z => Ext no wr z), (10, fun z => Ext no wr z), (12, fun z => Ext no wr z), (15, fun z => Ext no wr z)]) ⟨.inr (.inl (by kernel_rfl)), .inr (.inl (by kernel_rfl)), .inr (.inl (by kernel_rfl)), .inr (.inl (by kernel_rfl)), .inr (.inl (by kernel_rfl)), trivial⟩ hT1 ?_
              clear hK K
              try simp only [pz]
              replace hx3 := (Ext.drew no wr).comp hx3
              refine wpF_take 17 (v := ?_) rfl (by kernel_rfl) (by kernel_rfl) (by kernel_rfl) (fun _ _ _ h => h) hT1 (by rfl) ?_ ?_
              rotate_left
              · (intro wq; go_simp; try with_reducible rfl)
              simp only [pz]
              refine wpF_done (by kernel_rfl) ?_ _
              clear e1 c3' q10 y0 y1 y2 z0 z1 z2 hgk
              replace hW := hW.comp hx3
              replace hC := hC.ext (by simp) hx3 (fun h => h)
              replace hO := hO.ext (by simp) hx3 (fun h => h)
              replace hR := hR.ext (by simp) hx3 (fun h => h)
              replace hg := hg.ext hx3 (fun _ _ h => h)
              clear hx3
              clear Hgg
              have c3 : (w3.alloc (.cells #[] 39)).cell? ⟨g, 3, none⟩ = some (.slice ga G.length gc) := (hC.ext (by simp) (Ext.alloc no _ _) (fun h => h)).cell 3 _ rfl
              have hA0 : Ext no w (w3.alloc (.cells #[] 39)) := hW.comp (Ext.alloc no _ _)
              have hf : Rd (w3.alloc (.cells #[] 39)) ga (rows DotR.cells (G.take k)) := by have q := (hg.rd.alloc (.cells #[] 39)).take (k * 3); rwa [rows_take kDot] at q
              obtain ⟨B1, hBB⟩ : ∃ B1, B1 = w3.heap.size := ⟨_, rfl⟩
              have hz : Own (w3.alloc (.cells #[] 39)) B1 (some ⟨w3.heap.size, 0, none⟩) 3 0 0 [] := by rw [hBB]; exact Own.fresh w3 _ _ _ _ _ _ _ _ (Nat.le_refl _) (by simp) (Nat.le_refl _) (Nat.zero_le _) (by simp) (by simp) (.inl (Nat.le_refl _))
              have hcA : ∀ w, (Instr.sliceAt 28 (.slice ga G.length gc) none (some (.int .i64 (k : Int))) none).run Tryz.prog w = .ok (.slice ga k gc) w := fun w => run_cut_h TDot w ga _ gc .i64 k (by omega)
              have hB1 : g + 1 + 1 < B1 := by have := hR.lt (by simp); omega
              have hB2 : w.heap.size ≤ B1 := by have := hW.size; omega
              have hB3 : B1 ≤ w3.heap.size := by omega
              have hB4 : w3.heap.size ≤ B1 := by omega
              have hgb : ∀ ad, ga = some ad → ad.block < B1 := fun ad ha => by have := (hg.base ad ha).2.1; omega
              clear hBB
              go_wp2_with (at_builtin; refine wpList_append TDot rfl rfl rfl hz rfl hf (by rw [rows_length kDot, List.length_take]; congr 1; omega) (oneDot _) ?c1 ?c2 (by simp; omega) ?_)
              case c1 => unfold maxLen; omega
              case c2 => omega
              intro a1 c1 w5 hp1
              try rw [Nat.zero_add]
              have ho1 := hp1.own
              rw [Nat.zero_add, List.nil_append] at ho1
              have hxA : Ext no w3 w5 := (Ext.alloc no _ _).trans hp1.ext (fun k hk => by rintro ⟨ad, h, hb⟩; cases h; simp only at hb; omega)
              have hBs : B1 ≤ w5.heap.size := by have := hxA.size; omega
              clear hp1 hz hf hcA hB3 hB4 hA0 c3
              replace hW := hW.comp hxA
              replace hC := hC.ext (by simp) hxA (fun h => h)
              replace hO := hO.ext (by simp) hxA (fun h => h)
              replace hR := hR.ext (by simp) hxA (fun h => h)
              replace hg := hg.ext hxA (fun _ _ h => h)
              clear hxA
              have hrr := hr.no hW
              have y0 : w5.cell? ⟨db, dof + i * 3, none⟩ = some (.int .i64 d.dev) := rows_cell kDot hrr hdm 0 _ rfl
              have y1 : w5.cell? ⟨db, dof + i * 3 + 1, none⟩ = some (.int .i64 d.ep) := rows_cell kDot hrr hdm 1 _ rfl
              have y2 : w5.cell? ⟨db, dof + i * 3 + 2, none⟩ = some (.int .i64 d.seq) := rows_cell kDot hrr hdm 2 _ rfl
              clear hrr
              have q10 := hO.cell 10 _ rfl
              have hX1 : Rd (w5.alloc (.cells #[.int .i64 d.dev, .int .i64 d.ep, .int .i64 d.seq] 39)) (some ⟨w5.heap.size, 0, none⟩) (DotR.cells d) := Rd.lit w5 #[.int .i64 d.dev, .int .i64 d.ep, .int .i64 d.seq] _ _
              go_wp2_with (at_builtin; refine wpList_append TDot rfl rfl rfl (ho1.alloc _) rfl hX1 rfl (one1Dot d) ?c1 ?c2 ?c3 ?_)
              case c1 => unfold maxLen; omega
              case c2 => omega
              case c3 => first | omega | (simp; omega)
              intro a2 c2 w7 hp2
              have ho2 := hp2.own
              clear y0 y1 y2 q10 hX1
              have hxa := Ext.alloc no w5 (.cells #[.int .i64 d.dev, .int .i64 d.ep, .int .i64 d.seq] 39)
              have nb : ∀ q, q < B1 → ¬ blk a1 q := fun q hq => by rintro ⟨ad, h, hb⟩; have := (ho1.base ad h).1; omega
              replace hBs := Nat.le_trans hBs (Nat.le_trans hxa.size hp2.ext.size)
              replace hC := (hC.ext (by simp) hxa (fun h => h)).ext (by simp) hp2.ext (nb _ (by omega))
              replace hO := (hO.ext (by simp) hxa (fun h => h)).ext (by simp) hp2.ext (nb _ (by omega))
              replace hR := (hR.ext (by simp) hxa (fun h => h)).ext (by simp) hp2.ext (nb _ (by omega))
              replace hg := (hg.ext hxa (fun _ _ h => h)).ext hp2.ext (fun ad ha => nb _ (hgb ad ha))
              replace hW := (hW.comp hxa).trans hp2.ext (fun k hk => nb k (by omega))
              clear hp2 hxa nb ho1
              have c3 := hC.cell 3 _ rfl
              have f3 := hC.fr 3
              have hcC : ∀ w, (Instr.sliceAt 28 (.slice ga G.length gc) (some (.int .i64 (k : Int))) none none).run Tryz.prog w = .ok (.slice (cutAt ga gc k 3) (G.length - k) (gc - k)) w := fun w => run_cut_l TDot w ga _ gc .i64 k (by omega)
              have hf2 : Rd w7 (cutAt ga gc k 3) (rows DotR.cells (G.drop k)) := by have q := hg.rd.cutAt gc k 3 (fun e => by rw [rows_length kDot]; exact Nat.mul_le_mul_right _ (by omega)); rwa [rows_drop kDot] at q
              go_wp2_with (at_builtin; refine wpList_append TDot rfl rfl rfl ho2 rfl hf2 (by rw [rows_length kDot, List.length_drop]) (oneDot _) ?c1 ?c2 ?c3 ?_)
              case c1 => unfold maxLen; omega
              case c2 => omega
              case c3 => omega
              intro a3 c4 w8 hp3
              have ho3 := hp3.own
              have nb : ∀ q, q < B1 → ¬ blk a2 q := fun q hq => by rintro ⟨ad, h, hb⟩; have := (ho2.base ad h).1; omega
              replace hC := hC.ext (by simp) hp3.ext (nb _ (by omega))
              replace hO := hO.ext (by simp) hp3.ext (nb _ (by omega))
              replace hR := hR.ext (by simp) hp3.ext (nb _ (by omega))
              replace hW := hW.trans hp3.ext (fun k hk => nb k (by omega))
              clear hp3 hf2 hcC nb hg ho2 c3 f3
              have c3 := hC.cell 3 _ rfl
              have f3 := hC.fr 3
              have hlen := splice_length G k k d hPl hPl
              have ho4 : Own w8 B a3 3 (splice G k k d).length c4 (rows DotR.cells (splice G k k d)) := by rw [hlen]; unfold splice; rw [rows_append, rows_append, rows_one]; exact ho3.mono (by omega)
              have hga4 : ∀ ad, a3 = some ad → g + 1 + 1 < ad.block := fun ad ha => by have := (ho3.base ad ha).1; omega
              clear hlen ho3
              go_upto_region 3 with fail
              have hCs := hC.set 3 (.slice a3 (k + 1 + (G.length - k)) c4) (by simp)
              have hxs : Ext (just g) w8 (w8.setCell ⟨g, 3, none⟩ (.slice a3 (k + 1 + (G.length - k)) c4)) := Ext.setCell _ _ _ rfl
              generalize w8.setCell ⟨g, 3, none⟩ (.slice a3 (k + 1 + (G.length - k)) c4) = w9 at *
              replace hO := hO.ext (by simp) hxs (fun e => by have e : g + 1 = g := e; omega)
              replace hR := hR.ext (by simp) hxs (fun e => by have e : g + 1 + 1 = g := e; omega)
              replace ho4 := ho4.ext hxs (fun ad ha e => by have e : ad.block = g := e; have := hga4 ad ha; omega)
              replace hW := hW.trans hxs (fun k hk e => by have e : k = g := e; omega)
              clear hxs hC c3 f3
              go_wp2_with fail
              go_roundw
              case rel => exact ⟨i + 1, splice G k k d, a3, c4, by go_num, by omega, HN2.out, by rw [splice_length G k k d hPl hPl]; exact hCs, hO, hR, ho4, (fun ad ha => .inr (hga4 ad ha)), hW⟩
              case measure => simp [intOf]; omega
            · have e1 : decide (k < G.length) = false := decF hkl
              go_upto_region 6 with fail
              refine wp_region_F [2] (looks [(2, fun z => Ext no wr z)]) (by kernel_rfl) ?_
              have hT0 : ∀ k, looks [(2, fun z => Ext no wr z)] k (wr.drew) := looks_all ⟨Ext.drew no wr, trivial⟩
              refine wpF_take 0 (v := ?_) rfl (by kernel_rfl) (by kernel_rfl) (by kernel_rfl) (fun _ _ _ h => h) hT0 (by rfl) ?_ ?_
              rotate_left
              · (intro wq; go_simp; try with_reducible rfl)
              simp only [pz]
              refine wpF_take 1 (v := ?_) rfl (by kernel_rfl) (by kernel_rfl) (by kernel_rfl) (fun _ _ _ h => h) hT0 (by rfl) ?_ ?_
              rotate_left
              · (intro wq; go_simp; try with_reducible rfl)
              simp only [pz]
              refine wpF_look 2 (v := .slice ga G.length gc) rfl rfl (by kernel_rfl) (by kernel_rfl) (by kernel_rfl) (by kernel_rfl) (fun _ _ _ h => h) hT0 (by rfl) (fun w hS => by have hS : Ext no wr w := hS; have q0 := hS.keeps c3 (fun h => h); go_simp) ?_
              simp only [pz]
              refine wpF_take 3 (v := ?_) rfl (by kernel_rfl) (by kernel_rfl) (by kernel_rfl) (fun _ _ _ h => h) hT0 (by rfl) ?_ ?_
              rotate_left
              · (intro wq; go_simp; try with_reducible rfl)
              simp only [pz]
              refine wpF_take 4 (v := .bool false) rfl (by kernel_rfl) (by kernel_rfl) (by kernel_rfl) (fun _ _ _ h => h) hT0 (by rfl) (by intro wq; go_simp; first | done | rfl) ?_
              simp only [pz]
              refine wpF_take 5 (v := ?_) rfl (by kernel_rfl) (by kernel_rfl) (by kernel_rfl) (fun _ _ _ h => h) hT0 (by rfl) ?_ ?_
              rotate_left
              · (intro wq; go_simp; try with_reducible rfl)
              simp only [pz]
              refine wpF_skip 6 rfl (by kernel_rfl) (by kernel_rfl) (by kernel_rfl) (fun _ _ _ h => h) hT0 (by rfl) ?_
              simp only [pz]
              refine wpF_skip 7 rfl (by kernel_rfl) (by kernel_rfl) (by kernel_rfl) (fun _ _ _ h => h) hT0 (by rfl) ?_
              simp only [pz]
              refine wpF_skip 8 rfl (by kernel_rfl) (by kernel_rfl) (by kernel_rfl) (fun _ _ _ h => h) hT0 (by rfl) ?_
              simp only [pz]
              refine wpF_skip 9 rfl (by kernel_rfl) (by kernel_rfl) (by kernel_rfl) (fun _ _ _ h => h) hT0 (by rfl) ?_
              simp only [pz]
              refine wpF_skip 10 rfl (by kernel_rfl) (by kernel_rfl) (by kernel_rfl) (fun _ _ _ h => h) hT0 (by rfl) ?_
              simp only [pz]
              refine wpF_skip 11 rfl (by kernel_rfl) (by kernel_rfl) (by kernel_rfl) (fun _ _ _ h => h) hT0 (by rfl) ?_
              simp only [pz]
              refine wpF_skip 12 rfl (by kernel_rfl) (by kernel_rfl) (by kernel_rfl) (fun _ _ _ h => h) hT0 (by rfl) ?_
              simp only [pz]
              refine wpF_skip 13 rfl (by kernel_rfl) (by kernel_rfl) (by kernel_rfl) (fun _ _ _ h => h) hT0 (by rfl) ?_
              simp only [pz]
              refine wpF_skip 14 rfl (by kernel_rfl) (by kernel_rfl) (by kernel_rfl) (fun _ _ _ h => h) hT0 (by rfl) ?_
              simp only [pz]
              refine wpF_skip 15 rfl (by kernel_rfl) (by kernel_rfl) (by kernel_rfl) (fun _ _ _ h => h) hT0 (by rfl) ?_
              simp only [pz]
              refine wpF_skip 16 rfl (by kernel_rfl) (by kernel_rfl) (by kernel_rfl) (fun _ _ _ h => h) hT0 (by rfl) ?_
              simp only [pz]
              refine wpF_take 17 (v := ?_) rfl (by kernel_rfl) (by kernel_rfl) (by kernel_rfl) (fun _ _ _ h => h) hT0 (by rfl) ?_ ?_
              rotate_left
              · (intro wq; go_simp; try with_reducible rfl)
              simp only [pz]
              refine wpF_done (by kernel_rfl) ?_ _
              have hx3 := Ext.drew no wr
              generalize wr.drew = w3 at *
              clear e1 c3 q10 y0 y1 y2
              replace hW := hW.comp hx3
              replace hC := hC.ext (by simp) hx3 (fun h => h)
              replace hO := hO.ext (by simp) hx3 (fun h => h)
              replace hR := hR.ext (by simp) hx3 (fun h => h)
              replace hg := hg.ext hx3 (fun _ _ h => h)
              clear hx3
              have c3 : (w3.alloc (.cells #[] 39)).cell? ⟨g, 3, none⟩ = some (.slice ga G.length gc) := (hC.ext (by simp) (Ext.alloc no _ _) (fun h => h)).cell 3 _ rfl
              have hA0 : Ext no w (w3.alloc (.cells #[] 39)) := hW.comp (Ext.alloc no _ _)
              have hf : Rd (w3.alloc (.cells #[] 39)) ga (rows DotR.cells (G.take k)) := by have q := (hg.rd.alloc (.cells #[] 39)).take (k * 3); rwa [rows_take kDot] at q
              obtain ⟨B1, hBB⟩ : ∃ B1, B1 = w3.heap.size := ⟨_, rfl⟩
              have hz : Own (w3.alloc (.cells #[] 39)) B1 (some ⟨w3.heap.size, 0, none⟩) 3 0 0 [] := by rw [hBB]; exact Own.fresh w3 _ _ _ _ _ _ _ _ (Nat.le_refl _) (by simp) (Nat.le_refl _) (Nat.zero_le _) (by simp) (by simp) (.inl (Nat.le_refl _))
              have hcA : ∀ w, (Instr.sliceAt 28 (.slice ga G.length gc) none (some (.int .i64 (k : Int))) none).run Tryz.prog w = .ok (.slice ga k gc) w := fun w => run_cut_h TDot w ga _ gc .i64 k (by omega)
              have hB1 : g + 1 + 1 < B1 := by have := hR.lt (by simp); omega
              have hB2 : w.heap.size ≤ B1 := by have := hW.size; omega
              have hB3 : B1 ≤ w3.heap.size := by omega
              have hB4 : w3.heap.size ≤ B1 := by omega
              have hgb : ∀ ad, ga = some ad → ad.block < B1 := fun ad ha => by have := (hg.base ad ha).2.1; omega
              clear hBB
              go_wp2_with (at_builtin; refine wpList_append TDot rfl rfl rfl hz rfl hf (by rw [rows_length kDot, List.length_take]; congr 1; omega) (oneDot _) ?c1 ?c2 (by simp; omega) ?_)
              case c1 => unfold maxLen; omega
              case c2 => omega
              intro a1 c1 w5 hp1
              try rw [Nat.zero_add]
              have ho1 := hp1.own
              rw [Nat.zero_add, List.nil_append] at ho1
              have hxA : Ext no w3 w5 := (Ext.alloc no _ _).trans hp1.ext (fun k hk => by rintro ⟨ad, h, hb⟩; cases h; simp only at hb; omega)
              have hBs : B1 ≤ w5.heap.size := by have := hxA.size; omega
              clear hp1 hz hf hcA hB3 hB4 hA0 c3
              replace hW := hW.comp hxA
              replace hC := hC.ext (by simp) hxA (fun h => h)
              replace hO := hO.ext (by simp) hxA (fun h => h)
              replace hR := hR.ext (by simp) hxA (fun h => h)
              replace hg := hg.ext hxA (fun _ _ h => h)
              clear hxA
              have hrr := hr.no hW
              have y0 : w5.cell? ⟨db, dof + i * 3, none⟩ = some (.int .i64 d.dev) := rows_cell kDot hrr hdm 0 _ rfl
              have y1 : w5.cell? ⟨db, dof + i * 3 + 1, none⟩ = some (.int .i64 d.ep) := rows_cell kDot hrr hdm 1 _ rfl
              have y2 : w5.cell? ⟨db, dof + i * 3 + 2, none⟩ = some (.int .i64 d.seq) := rows_cell kDot hrr hdm 2 _ rfl
              clear hrr
              have q10 := hO.cell 10 _ rfl
              have hX1 : Rd (w5.alloc (.cells #[.int .i64 d.dev, .int .i64 d.ep, .int .i64 d.seq] 39)) (some ⟨w5.heap.size, 0, none⟩) (DotR.cells d) := Rd.lit w5 #[.int .i64 d.dev, .int .i64 d.ep, .int .i64 d.seq] _ _
              go_wp2_with (at_builtin; refine wpList_append TDot rfl rfl rfl (ho1.alloc _) rfl hX1 rfl (one1Dot d) ?c1 ?c2 ?c3 ?_)
              case c1 => unfold maxLen; omega
              case c2 => omega
              case c3 => first | omega | (simp; omega)
              intro a2 c2 w7 hp2
              have ho2 := hp2.own
              clear y0 y1 y2 q10 hX1
              have hxa := Ext.alloc no w5 (.cells #[.int .i64 d.dev, .int .i64 d.ep, .int .i64 d.seq] 39)
              have nb : ∀ q, q < B1 → ¬ blk a1 q := fun q hq => by rintro ⟨ad, h, hb⟩; have := (ho1.base ad h).1; omega
              replace hBs := Nat.le_trans hBs (Nat.le_trans hxa.size hp2.ext.size)
              replace hC := (hC.ext (by simp) hxa (fun h => h)).ext (by simp) hp2.ext (nb _ (by omega))
              replace hO := (hO.ext (by simp) hxa (fun h => h)).ext (by simp) hp2.ext (nb _ (by omega))
              replace hR := (hR.ext (by simp) hxa (fun h => h)).ext (by simp) hp2.ext (nb _ (by omega))
              replace hg := (hg.ext hxa (fun _ _ h => h)).ext hp2.ext (fun ad ha => nb _ (hgb ad ha))
              replace hW := (hW.comp hxa).trans hp2.ext (fun k hk => nb k (by omega))
              clear hp2 hxa nb ho1
              have c3 := hC.cell 3 _ rfl
              have f3 := hC.fr 3
              have hcC : ∀ w, (Instr.sliceAt 28 (.slice ga G.length gc) (some (.int .i64 (k : Int))) none none).run Tryz.prog w = .ok (.slice (cutAt ga gc k 3) (G.length - k) (gc - k)) w := fun w => run_cut_l TDot w ga _ gc .i64 k (by omega)
              have hf2 : Rd w7 (cutAt ga gc k 3) (rows DotR.cells (G.drop k)) := by have q := hg.rd.cutAt gc k 3 (fun e => by rw [rows_length kDot]; exact Nat.mul_le_mul_right _ (by omega)); rwa [rows_drop kDot] at q
              go_wp2_with (at_builtin; refine wpList_append TDot rfl rfl rfl ho2 rfl hf2 (by rw [rows_length kDot, List.length_drop]) (oneDot _) ?c1 ?c2 ?c3 ?_)
              case c1 => unfold maxLen; omega
              case c2 => omega
              case c3 => omega
              intro a3 c4 w8 hp3
              have ho3 := hp3.own
              have nb : ∀ q, q < B1 → ¬ blk a2 q := fun q hq => by rintro ⟨ad, h, hb⟩; have := (ho2.base ad h).1; omega
              replace hC := hC.ext (by simp) hp3.ext (nb _ (by omega))
              replace hO := hO.ext (by simp) hp3.ext (nb _ (by omega))
              replace hR := hR.ext (by simp) hp3.ext (nb _ (by omega))
              replace hW := hW.trans hp3.ext (fun k hk => nb k (by omega))
              clear hp3 hf2 hcC nb hg ho2 c3 f3
              have c3 := hC.cell 3 _ rfl
              have f3 := hC.fr 3
              have hlen := splice_length G k k d hPl hPl
              have ho4 : Own w8 B a3 3 (splice G k k d).length c4 (rows DotR.cells (splice G k k d)) := by rw [hlen]; unfold splice; rw [rows_append, rows_append, rows_one]; exact ho3.mono (by omega)
              have hga4 : ∀ ad, a3 = some ad → g + 1 + 1 < ad.block := fun ad ha => by have := (ho3.base ad ha).1; omega
              clear hlen ho3
              go_upto_region 3 with fail
              have hCs := hC.set 3 (.slice a3 (k + 1 + (G.length - k)) c4) (by simp)
              have hxs : Ext (just g) w8 (w8.setCell ⟨g, 3, none⟩ (.slice a3 (k + 1 + (G.length - k)) c4)) := Ext.setCell _ _ _ rfl
              generalize w8.setCell ⟨g, 3, none⟩ (.slice a3 (k + 1 + (G.length - k)) c4) = w9 at *
              replace hO := hO.ext (by simp) hxs (fun e => by have e : g + 1 = g := e; omega)
              replace hR := hR.ext (by simp) hxs (fun e => by have e : g + 1 + 1 = g := e; omega)
              replace ho4 := ho4.ext hxs (fun ad ha e => by have e : ad.block = g := e; have := hga4 ad ha; omega)
              replace hW := hW.trans hxs (fun k hk e => by have e : k = g := e; omega)
              clear hxs hC c3 f3
              go_wp2_with fail
              go_roundw
              case rel => exact ⟨i + 1, splice G k k d, a3, c4, by go_num, by omega, HN2.out, by rw [splice_length G k k d hPl hPl]; exact hCs, hO, hR, ho4, (fun ad ha => .inr (hga4 ad ha)), hW⟩
              case measure => simp [intOf]; omega
    · have hiE : i = o.dots.length := by omega
      subst hiE
      have d1 : decide (o.dots.length < o.dots.length) = false := decF (by omega)
      rw [List.take_length] at HG
      clear hin hin0
      obtain ⟨E, hE⟩ : ∃ E, E = refLeft G C.elems := ⟨_, rfl⟩
      have HE := Lib.hid hE
      clear hE
      have hEr := HM.out.e.rd
      have hec := HM.out.e.nc
      obtain ⟨B1, hBB⟩ : ∃ B1, B1 = wr.heap.size := ⟨_, rfl⟩
      have hB3 : B1 ≤ wr.heap.size := by omega
      have hB4 : wr.heap.size ≤ B1 := by omega
      have hB1 : g + 1 + 1 < B1 := by omega
      have hB2 : w.heap.size ≤ B1 := by omega
      clear hBB
      have hgb : ∀ ad, ga = some ad → ad.block < B1 := fun ad ha => by have := (hg.base ad ha).2.1; omega
      generalize wr = w4 at *
      go_wp2_with fail
      clear q10
      go_loopw [8, 9] (fun s8 s9 wr => ∃ (j : Nat) (l : List ElemR) (ea : Option Addr) (ec : Nat), s8 = .slice ea l.length ec ∧ s9 = .int .i64 j ∧ j ≤ C.elems.length ∧ l = refLeft G (C.elems.take j) ∧ Own wr B1 ea 6 l.length ec (rows ElemR.cells l) ∧ Ext no w4 wr) (fun _ s9 _ => C.elems.length - (intOf s9).toNat)
      case atStart => exact ⟨0, [], none, 0, rfl, rfl, Nat.zero_le _, rfl, Own.nil _ _ _, Ext.refl _ _⟩
      case round =>
        obtain ⟨j, l, ea, ec, rfl, rfl, hje, hl, hol, hx⟩ := hrel
        have hll : l.length ≤ C.elems.length := by rw [hl]; have := refLeft_len G (C.elems.take j); rw [List.length_take] at this; omega
        have HLl := Lib.hid hl
        clear hl
        have hx0 := hx
        replace hW := hW.comp hx
        replace hC := hC.ext (by simp) hx (fun h => h)
        replace hO := hO.ext (by simp) hx (fun h => h)
        replace hR := hR.ext (by simp) hx (fun h => h)
        replace hg := hg.ext hx (fun _ _ h => h)
        clear hx
        have c2 := hC.cell 2 _ rfl
        have c3 := hC.cell 3 _ rfl
        by_cases hj : j < C.elems.length
        · have e1 : decide (j < C.elems.length) = true := decT hj
          obtain ⟨x, hxm⟩ : ∃ x, C.elems[j]? = some x := ⟨_, List.getElem?_eq_getElem hj⟩
          have hft := filter_take_succ C.elems (fun x => !refIn G x.dot) j x hxm
          have hgk := hEr.no hW
          obtain ⟨eb, eo, hse, _⟩ := rows_shape kElem (by omega) hgk (by omega)
          rw [hse] at hgk c2
          have Hse := Lib.hid hse
          clear hse
          have z0 : wr.cell? ⟨eb, eo + j * 6, none⟩ = some (.string (str x.key)) := rows_cell kElem hgk hxm 0 _ rfl
          have z1 : wr.cell? ⟨eb, eo + j * 6 + 1, none⟩ = some (.string (str x.text)) := rows_cell kElem hgk hxm 1 _ rfl
          have z2 : wr.cell? ⟨eb, eo + j * 6 + 2, none⟩ = some (.int .i64 x.ver) := rows_cell kElem hgk hxm 2 _ rfl
          have z3 : wr.cell? ⟨eb, eo + j * 6 + 3, none⟩ = some (.int .i64 x.dot.dev) := rows_cell kElem hgk hxm 3 _ rfl
          have z4 : wr.cell? ⟨eb, eo + j * 6 + 4, none⟩ = some (.int .i64 x.dot.ep) := rows_cell kElem hgk hxm 4 _ rfl
          have z5 : wr.cell? ⟨eb, eo + j * 6 + 5, none⟩ = some (.int .i64 x.dot.seq) := rows_cell kElem hgk hxm 5 _ rfl
          go_upto_region 15 with fail
          cases hi : refIn G x.dot with
          | true =>
            have HN := Lib.hid (show l = refLeft G (C.elems.take (j + 1)) by rw [HLl.out]; unfold refLeft; rw [hft, hi]; simp)
            clear hft
            refine wp_region_F [1, 3, 7] (looks [(1, fun z => Ext no wr z), (3, fun z => Ext no wr z), (7, fun z => Ext no wr z)]) (by kernel_rfl) ?_
            have hT0 : ∀ k, looks [(1, fun z => Ext no wr z), (3, fun z => Ext no wr z), (7, fun z => Ext no wr z)] k (wr.drew) := looks_all ⟨Ext.drew no wr, Ext.drew no wr, Ext.drew no wr, trivial⟩
            refine wpF_take 0 (v := ?_) rfl (by kernel_rfl) (by kernel_rfl) (by kernel_rfl) (fun _ _ _ h => h) hT0 (by rfl) ?_ ?_
            rotate_left
            · (intro wq; go_simp; try with_reducible rfl)
            simp only [pz]
            refine wpF_look 1 (v := .slice ga G.length gc) rfl rfl (by kernel_rfl) (by kernel_rfl) (by kernel_rfl) (by kernel_rfl) (fun _ _ _ h => h) hT0 (by rfl) (fun w hS => by have hS : Ext no wr w := hS; have q0 := hS.keeps c3 (fun h => h); go_simp) ?_
            simp only [pz]
            refine wpF_take 2 (v := ?_) rfl (by kernel_rfl) (by kernel_rfl) (by kernel_rfl) (fun _ _ _ h => h) hT0 (by rfl) ?_ ?_
            rotate_left
            · (intro wq; go_simp; try with_reducible rfl)
            simp only [pz]
            refine wpF_look 3 (v := .slice (some ⟨eb, eo, none⟩) C.elems.length h.ec) rfl rfl (by kernel_rfl) (by kernel_rfl) (by kernel_rfl) (by kernel_rfl) (fun _ _ _ h => h) hT0 (by rfl) (fun w hS => by have hS : Ext no wr w := hS; have q0 := hS.keeps c2 (fun h => h); go_simp) ?_
            simp only [pz]
            refine wpF_take 4 (v := ?_) rfl (by kernel_rfl) (by kernel_rfl) (by kernel_rfl) (fun _ _ _ h => h) hT0 (by rfl) ?_ ?_
            rotate_left
            · (intro wq; go_simp; try with_reducible rfl)
            simp only [pz]
            refine wpF_take 5 (v := .pointer (some ⟨eb, eo + j * 6, none⟩)) rfl (by kernel_rfl) (by kernel_rfl) (by kernel_rfl) (fun _ _ _ h => h) hT0 (by rfl) (by intro wq; go_simp) ?_
            simp only [pz]
            refine wpF_take 6 (v := ?_) rfl (by kernel_rfl) (by kernel_rfl) (by kernel_rfl) (fun _ _ _ h => h) hT0 (by rfl) ?_ ?_
            rotate_left
            · (intro wq; go_simp; try with_reducible rfl)
            simp only [pz]
            refine wpF_look 7 (v := .agg #[.int .i64 x.dot.dev, .int .i64 x.dot.ep, .int .i64 x.dot.seq]) rfl rfl (by kernel_rfl) (by kernel_rfl) (by kernel_rfl) (by kernel_rfl) (fun _ _ _ h => h) hT0 (by rfl) (fun w hS => by have hS : Ext no wr w := hS; have q0 := hS.keeps z3 (fun h => h); have q1 := hS.keeps z4 (fun h => h); have q2 := hS.keeps z5 (fun h => h); go_simp) ?_
            simp only [pz]
            refine wpF_exec 8 rfl (by kernel_rfl) (by rfl) ?_
            intro K hK
            go_simp
            refine (in_any _ ga G gc x.dot (hg.rd.ext (Ext.drew no wr) (fun _ _ h => h)) (by omega)).mono ?_
            rintro e w3 ⟨rfl, hx3⟩
            rw [hi]
            have hT1 : ∀ k, looks [(1, fun z => Ext no wr z), (3, fun z => Ext no wr z), (7, fun z => Ext no wr z)] k (w3) := looks_all ⟨(Ext.drew no wr).comp hx3, (Ext.drew no wr).comp hx3, (Ext.drew no wr).comp hx3, trivial⟩
            refine hK _ _ (looks [(1, fun z => Ext no wr z), (3, fun z => Ext no wr z), (7, fun z => Ext no wr z)]) ⟨.inr (.inl (by kernel_rfl)), .inr (.inl (by kernel_rfl)), .inr (.inl (by kernel_rfl)), trivial⟩ hT1 ?_
            clear hK K
            try simp only [pz]
            replace hx3 := (Ext.drew no wr).comp hx3
            refine wpF_take 9 (v := ?_) rfl (by kernel_rfl) (by kernel_rfl) (by kernel_rfl) (fun _ _ _ h => h) hT1 (by rfl) ?_ ?_
            rotate_left
            · (intro wq; go_simp; try with_reducible rfl)
            simp only [pz]
            refine wpF_done (by kernel_rfl) ?_ _
            go_wp2_with fail
            go_roundw
            case rel => exact ⟨j + 1, l, ea, ec, rfl, by go_num, by omega, HN.out, hol.ext hx3 (fun _ _ h => h), hx0.comp hx3⟩
            case measure => simp [intOf]; omega
          | false =>
            have HN := Lib.hid (show l ++ [x] = refLeft G (C.elems.take (j + 1)) by rw [HLl.out]; unfold refLeft; rw [hft, hi]; simp)
            clear hft
            refine wp_region_F [1, 3, 7] (looks [(1, fun z => Ext no wr z), (3, fun z => Ext no wr z), (7, fun z => Ext no wr z)]) (by kernel_rfl) ?_
            have hT0 : ∀ k, looks [(1, fun z => Ext no wr z), (3, fun z => Ext no wr z), (7, fun z => Ext no wr z)] k (wr.drew) := looks_all ⟨Ext.drew no wr, Ext.drew no wr, Ext.drew no wr, trivial⟩
            refine wpF_take 0 (v := ?_) rfl (by kernel_rfl) (by kernel_rfl) (by kernel_rfl) (fun _ _ _ h => h) hT0 (by rfl) ?_ ?_
            rotate_left
            · (intro wq; go_simp; try with_reducible rfl)
            simp only [pz]
            refine wpF_look 1 (v := .slice ga G.length gc) rfl rfl (by kernel_rfl) (by kernel_rfl) (by kernel_rfl) (by kernel_rfl) (fun _ _ _ h => h) hT0 (by rfl) (fun w hS => by have hS : Ext no wr w := hS; have q0 := hS.keeps c3 (fun h => h); go_simp) ?_
            simp only [pz]
            refine wpF_take 2 (v := ?_) rfl (by kernel_rfl) (by kernel_rfl) (by kernel_rfl) (fun _ _ _ h => h) hT0 (by rfl) ?_ ?_
            rotate_left
            · (intro wq; go_simp; try with_reducible rfl)
            simp only [pz]
            refine wpF_look 3 (v := .slice (some ⟨eb, eo, none⟩) C.elems.length h.ec) rfl rfl (by kernel_rfl) (by kernel_rfl) (by kernel_rfl) (by kernel_rfl) (fun _ _ _ h => h) hT0 (by rfl) (fun w hS => by have hS : Ext no wr w := hS; have q0 := hS.keeps c2 (fun h => h); go_simp) ?_
            simp only [pz]
            refine wpF_take 4 (v := ?_) rfl (by kernel_rfl) (by kernel_rfl) (by kernel_rfl) (fun _ _ _ h => h) hT0 (by rfl) ?_ ?_
            rotate_left
            · (intro wq; go_simp; try with_reducible rfl)
            simp only [pz]
            refine wpF_take 5 (v := .pointer (some ⟨eb, eo + j * 6, none⟩)) rfl (by kernel_rfl) (by kernel_rfl) (by kernel_rfl) (fun _ _ _ h => h) hT0 (by rfl) (by intro wq; go_simp) ?_
            simp only [pz]
            refine wpF_take 6 (v := ?_) rfl (by kernel_rfl) (by kernel_rfl) (by kernel_rfl) (fun _ _ _ h => h) hT0 (by rfl) ?_ ?_
            rotate_left
            · (intro wq; go_simp; try with_reducible rfl)
            simp only [pz]
            refine wpF_look 7 (v := .agg #[.int .i64 x.dot.dev, .int .i64 x.dot.ep, .int .i64 x.dot.seq]) rfl rfl (by kernel_rfl) (by kernel_rfl) (by kernel_rfl) (by kernel_rfl) (fun _ _ _ h => h) hT0 (by rfl) (fun w hS => by have hS : Ext no wr w := hS; have q0 := hS.keeps z3 (fun h => h); have q1 := hS.keeps z4 (fun h => h); have q2 := hS.keeps z5 (fun h => h); go_simp) ?_
            simp only [pz]
            refine wpF_exec 8 rfl (by kernel_rfl) (by rfl) ?_
            intro K hK
            go_simp
            refine (in_any _ ga G gc x.dot (hg.rd.ext (Ext.drew no wr) (fun _ _ h => h)) (by omega)).mono ?_
            rintro e w3 ⟨rfl, hx3⟩
            rw [hi]
            have hT1 : ∀ k, looks [(1, fun z => Ext no wr z), (3, fun z => Ext no wr z), (7, fun z => Ext no wr z)] k (w3) := looks_all ⟨(Ext.drew no wr).comp hx3, (Ext.drew no wr).comp hx3, (Ext.drew no wr).comp hx3, trivial⟩
            refine hK _ _ (looks [(1, fun z => Ext no wr z), (3, fun z => Ext no wr z), (7, fun z => Ext no wr z)]) ⟨.inr (.inl (by kernel_rfl)), .inr (.inl (by kernel_rfl)), .inr (.inl (by kernel_rfl)), trivial⟩ hT1 ?_
            clear hK K
            try simp only [pz]
            replace hx3 := (Ext.drew no wr).comp hx3
            refine wpF_take 9 (v := ?_) rfl (by kernel_rfl) (by kernel_rfl) (by kernel_rfl) (fun _ _ _ h => h) hT1 (by rfl) ?_ ?_
            rotate_left
            · (intro wq; go_simp; try with_reducible rfl)
            simp only [pz]
            refine wpF_done (by kernel_rfl) ?_ _
            replace hol := hol.ext hx3 (fun _ _ h => h)
            replace hx0 := hx0.comp hx3
            have c2' := (hC.ext (by simp) hx3 (fun h => h)).cell 2 _ rfl
            rw [Hse.out] at c2'
            replace hW := hW.comp hx3
            have hgk := hEr.no hW
            rw [Hse.out] at hgk
            clear c2 c3 z0 z1 z2 z3 z4 z5
            have z0 : w3.cell? ⟨eb, eo + j * 6, none⟩ = some (.string (str x.key)) := rows_cell kElem hgk hxm 0 _ rfl
            have z1 : w3.cell? ⟨eb, eo + j * 6 + 1, none⟩ = some (.string (str x.text)) := rows_cell kElem hgk hxm 1 _ rfl
            have z2 : w3.cell? ⟨eb, eo + j * 6 + 2, none⟩ = some (.int .i64 x.ver) := rows_cell kElem hgk hxm 2 _ rfl
            have z3 : w3.cell? ⟨eb, eo + j * 6 + 3, none⟩ = some (.int .i64 x.dot.dev) := rows_cell kElem hgk hxm 3 _ rfl
            have z4 : w3.cell? ⟨eb, eo + j * 6 + 4, none⟩ = some (.int .i64 x.dot.ep) := rows_cell kElem hgk hxm 4 _ rfl
            have z5 : w3.cell? ⟨eb, eo + j * 6 + 5, none⟩ = some (.int .i64 x.dot.seq) := rows_cell kElem hgk hxm 5 _ rfl
            have hX1 : Rd (w3.alloc (.cells #[.string (str x.key), .string (str x.text), .int .i64 x.ver, .int .i64 x.dot.dev, .int .i64 x.dot.ep, .int .i64 x.dot.seq] 61)) (some ⟨w3.heap.size, 0, none⟩) (ElemR.cells x) := Rd.lit w3 #[.string (str x.key), .string (str x.text), .int .i64 x.ver, .int .i64 x.dot.dev, .int .i64 x.dot.ep, .int .i64 x.dot.seq] _ _
            have hz0 := hx0.size
            go_wp2_with (at_builtin; refine wpList_append TElem rfl rfl rfl (hol.alloc _) rfl hX1 rfl (one1Elem x) ?c1 ?c2 ?c3 ?_)
            case c1 => unfold maxLen; omega
            case c2 => omega
            case c3 => first | omega | (simp; omega)
            intro a2 c2 w7 hp2
            have ho2 := hp2.own
            have hx7 := (hx0.comp (Ext.alloc no _ _)).trans hp2.ext (fun k hk => by rintro ⟨ad, h, hb⟩; have := (hol.base ad h).1; omega)
            clear hp2 hX1 z0 z1 z2 z3 z4 z5 c2'
            go_wp2_with fail
            go_roundw
            case rel => exact ⟨j + 1, l ++ [x], a2, c2, by rw [List.length_append]; rfl, by go_num, by omega, HN.out, by rw [List.length_append, rows_append, rows_one]; exact ho2, hx7⟩
            case measure => simp [intOf]; omega
        · have hjE : j = C.elems.length := by omega
          subst hjE
          have e1 : decide (C.elems.length < C.elems.length) = false := decF (by omega)
          rw [List.take_length, ← HE.out] at HLl
          have f2 := hC.fr 2
          clear hj hje
          go_upto_region 18 with fail
          have hCs := hC.set 2 (.slice ea l.length ec) (by simp)
          have hxs : Ext (just g) wr (wr.setCell ⟨g, 2, none⟩ (.slice ea l.length ec)) := Ext.setCell _ _ _ rfl
          have heb : ∀ ad, ea = some ad → B1 ≤ ad.block ∧ ad.block < wr.heap.size := fun ad ha => ⟨(hol.base ad ha).1, (hol.base ad ha).2.1⟩
          have hm1 := HM.out.no hW
          have hap1 := apart_upd (at' := ({ h with g := ga, gc := gc } : Six).at) HM.out.ap (fun i ad hi => (HM.out.base i ad hi).2) 3 (fun i hi => by rcases i with _ | _ | _ | _ | _ | _ | i <;> first | rfl | exact absurd rfl hi) (fun ad ha => by rcases hga ad ha with q | q; exact .inl q; exact .inr (by omega))
          have hlt1 : ∀ i ad, ({ h with g := ga, gc := gc } : Six).at i = some ad → ad.block < B1 := fun i ad hi => by
            by_cases h3 : i = 3
            · subst h3; exact hgb ad hi
            · have : h.at i = some ad := by rcases i with _ | _ | _ | _ | _ | _ | i <;> first | exact hi | exact absurd rfl h3
              have := (HM.out.base i ad this).2
              omega
          have hmF : Mine { C with gone := G, elems := l } wr B { h with g := ga, gc := gc, e := ea, ec := ec } := by
            refine ⟨hm1.v, hm1.r, hol.mono (by omega), hg, hm1.s, hm1.b, ?_⟩
            intro i j hij x y hx hy
            have key : ∀ i j x y, i ≠ 2 → j ≠ 2 → i ≠ j → ({ h with g := ga, gc := gc, e := ea, ec := ec } : Six).at i = some x → ({ h with g := ga, gc := gc, e := ea, ec := ec } : Six).at j = some y → x.block ≠ y.block := fun i j x y h2 h2' hij hx hy => hap1 i j hij x y (by rcases i with _ | _ | _ | _ | _ | _ | i <;> first | exact hx | exact absurd rfl h2) (by rcases j with _ | _ | _ | _ | _ | _ | j <;> first | exact hy | exact absurd rfl h2')
            have low : ∀ i x, i ≠ 2 → ({ h with g := ga, gc := gc, e := ea, ec := ec } : Six).at i = some x → x.block < B1 := fun i x h2 hx => hlt1 i x (by rcases i with _ | _ | _ | _ | _ | _ | i <;> first | exact hx | exact absurd rfl h2)
            by_cases i2 : i = 2
            · subst i2
              have a1 := (heb x hx).1
              have a2 := low j y (Ne.symm hij) hy
              omega
            · by_cases j2 : j = 2
              · subst j2
                have a1 := (heb y hy).1
                have a2 := low i x i2 hx
                omega
              · exact key i j x y i2 j2 hij hx hy
          have haw : ∀ i ad, ({ h with g := ga, gc := gc, e := ea, ec := ec } : Six).at i = some ad → ad.block ≠ g ∧ ad.block ≠ g + 1 + 1 := fun i ad hi => by
            by_cases i2 : i = 2
            · subst i2; have := (heb ad hi).1; omega
            · by_cases i3 : i = 3
              · subst i3
                rcases hga ad hi with ⟨x, hx, hb⟩ | q
                · have := hgs x hx; omega
                · omega
              · have : h.at i = some ad := by rcases i with _ | _ | _ | _ | _ | _ | i <;> first | exact hi | exact absurd rfl i2 | exact absurd rfl i3
                have := (HM.out.base i ad this).2
                omega
          have hnear : ∀ i, Near (h.at i) w (({ h with g := ga, gc := gc, e := ea, ec := ec } : Six).at i) := fun i ad hi => by
            by_cases i2 : i = 2
            · subst i2; exact .inr (by have := (heb ad hi).1; omega)
            · by_cases i3 : i = 3
              · subst i3
                rcases hga ad hi with q | q
                · exact .inl q
                · exact .inr (by omega)
              · exact .inl ⟨ad, (by rcases i with _ | _ | _ | _ | _ | _ | i <;> first | exact hi | exact absurd rfl i2 | exact absurd rfl i3), rfl⟩
          replace hmF := hmF.ext hxs (fun i ad hi e => by have e : ad.block = g := e; have := (haw i ad hi).1; omega)
          replace hR := hR.ext (by simp) hxs (fun e => by have e : g + 1 + 1 = g := e; omega)
          replace hW := hW.trans hxs (fun k hk e => by have e : k = g := e; omega)
          clear hm1 hap1 hlt1 heb hol hg hxs hC hO c2 c3 f2
          generalize wr.setCell ⟨g, 2, none⟩ (.slice ea l.length ec) = w8 at *
          have c0 := hCs.cell 0 _ rfl
          have c1 := hCs.cell 1 _ rfl
          have c2 := hCs.cell 2 _ rfl
          have c3 := hCs.cell 3 _ rfl
          have c4 := hCs.cell 4 _ rfl
          have c5 := hCs.cell 5 _ rfl
          have z0 := hR.cell 0 _ rfl
          have z1 := hR.cell 1 _ rfl
          have z2 := hR.cell 2 _ rfl
          have z3 := hR.cell 3 _ rfl
          have z4 := hR.cell 4 _ rfl
          have z5 := hR.cell 5 _ rfl
          have f0 := hR.fr 0
          have f1 := hR.fr 1
          have f2 := hR.fr 2
          have f3 := hR.fr 3
          have f4 := hR.fr 4
          have f5 := hR.fr 5
          go_wp2_with fail
          have hbE := ((((((hR.set 0 (.slice h.v C.v.length h.vc) (by simp)).set 1 (.slice h.r C.regs.length h.rc) (by simp)).set 2 (.slice ea l.length ec) (by simp)).set 3 (.slice ga G.length gc) (by simp)).set 4 (.slice h.s C.sums.length h.sc) (by simp)).set 5 (.slice h.b C.binds.length h.bc) (by simp))
          have hxE := (((((Ext.setCell (S := just (g + 1 + 1)) w8 ⟨g + 1 + 1, 0, none⟩ (.slice h.v C.v.length h.vc) rfl).comp (Ext.setCell _ ⟨g + 1 + 1, 1, none⟩ (.slice h.r C.regs.length h.rc) rfl)).comp (Ext.setCell _ ⟨g + 1 + 1, 2, none⟩ (.slice ea l.length ec) rfl)).comp (Ext.setCell _ ⟨g + 1 + 1, 3, none⟩ (.slice ga G.length gc) rfl)).comp (Ext.setCell _ ⟨g + 1 + 1, 4, none⟩ (.slice h.s C.sums.length h.sc) rfl)).comp (Ext.setCell _ ⟨g + 1 + 1, 5, none⟩ (.slice h.b C.binds.length h.bc) rfl)
          clear z0 f0 z1 f1 z2 f2 z3 f3 z4 f4 z5 f5
          generalize (((((w8.setCell ⟨g + 1 + 1, 0, none⟩ (.slice h.v C.v.length h.vc)).setCell ⟨g + 1 + 1, 1, none⟩ (.slice h.r C.regs.length h.rc)).setCell ⟨g + 1 + 1, 2, none⟩ (.slice ea l.length ec)).setCell ⟨g + 1 + 1, 3, none⟩ (.slice ga G.length gc)).setCell ⟨g + 1 + 1, 4, none⟩ (.slice h.s C.sums.length h.sc)).setCell ⟨g + 1 + 1, 5, none⟩ (.slice h.b C.binds.length h.bc) = wE at *
          have z0 := hbE.cell 0 _ rfl
          have z1 := hbE.cell 1 _ rfl
          have z2 := hbE.cell 2 _ rfl
          have z3 := hbE.cell 3 _ rfl
          have z4 := hbE.cell 4 _ rfl
          have z5 := hbE.cell 5 _ rfl
          refine bodyPost_ret (v := .agg #[.slice h.v C.v.length h.vc, .slice h.r C.regs.length h.rc, .slice ea l.length ec, .slice ga G.length gc, .slice h.s C.sums.length h.sc, .slice h.b C.binds.length h.bc]) ?_ rfl ?_
          · rw [res_cell1 rfl]
            go_simp
          refine ⟨{ h with g := ga, gc := gc, e := ea, ec := ec }, ?_, ?_, hnear, hW.trans hxE (fun k hk e => by have e : k = g + 1 + 1 := e; omega)⟩
          · rw [← HG.out, ← HE.out, ← HLl.out]
          · rw [← HG.out, ← HE.out, ← HLl.out]; exact hmF.ext hxE (fun i ad hi e => by have e : ad.block = g + 1 + 1 := e; have := (haw i ad hi).2; omega)
end Go.Proofs.YtejmmkjpncpedaaGreat
