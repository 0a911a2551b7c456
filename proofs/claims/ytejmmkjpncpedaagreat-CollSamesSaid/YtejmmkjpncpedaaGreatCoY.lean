/- The walk of escrowlaw10.Row. -/
import Derived.Test.YtejmmkjpncpedaaGreatCoX
import Derived.Test.YtejmmkjpncpedaaGreatOpG
namespace Go.Proofs.YtejmmkjpncpedaaGreat
open Go.RowKit Go.Esc
set_option linter.unusedVariables false
set_option linter.unusedSimpArgs false
theorem TOps : SlT Tryz.prog 22 51 (.agg #[.int .i64 0, .int .i64 0, .int .i64 0, .int .i64 0, .int .i64 0, .int .i64 0, .string { data := #[] }, .string { data := #[] }, .int .i64 0, .int .i64 0, .slice none 0 0]) 11 120 := ⟨Tryz.underlying22, by kernel_rfl, rfl, by decide⟩
theorem oneOp (x : OpW) : ∀ u ∈ OpW.cells x, u.oneCell' = true := fun u hu => by
  simp only [OpW.cells, OpR.cells, List.mem_cons, List.not_mem_nil, or_false] at hu
  rcases hu with rfl | rfl | rfl | rfl | rfl | rfl | rfl | rfl | rfl | rfl | rfl <;> rfl
theorem oneOps (l : List OpW) : ∀ u ∈ rows OpW.cells l, u.oneCell' = true := rows_one' (fun x => oneOp x) l
def z6 : List Int := [0, 0, 0, 0, 0, 0]
theorem quarter (s : Int) : (s % 5).tdiv 4 = (s % 5) / 4 := Int.tdiv_eq_ediv_of_nonneg (by omega)
set_option maxRecDepth 100000 in
set_option maxHeartbeats 8000000 in
theorem row_any (w : World) (a : Option Addr) (l : List OpW) (c : Nat) (hr : Rd w a (rows OpW.cells l)) (hg : ∀ x ∈ l, x.good w) (hl60 : l.length ≤ 60) :
    Calls Tryz.prog 7 #[.slice a l.length c] w fun e w' => ∃ (g : List OpW) (ga : Option Addr) (gc : Nat), e = .returned (.slice ga g.length gc) ∧ Own w' w.heap.size ga 11 g.length gc (rows OpW.cells g) ∧ g.map OpW.o = rowL z6 (l.map OpW.o) ∧ (∀ x ∈ g, x.good w') ∧ (∀ x ∈ g, x.o.dots ≠ [] → Apart x.a ga) ∧ Ext no w w' := by
  have Hg := Lib.hid hg
  clear hg
  go_enter Tryz.func7, Tryz.ntmps7
  go_upto_region 3 with fail
  have hN0 := Blk.lit w #[.int .i64 0, .int .i64 0, .int .i64 0, .int .i64 0, .int .i64 0, .int .i64 0] 55
  have hx1 := Ext.alloc no w (.cells #[.int .i64 0, .int .i64 0, .int .i64 0, .int .i64 0, .int .i64 0, .int .i64 0] 55)
  generalize w.alloc (.cells #[.int .i64 0, .int .i64 0, .int .i64 0, .int .i64 0, .int .i64 0, .int .i64 0] 55) = w1 at *
  have hz1 := hN0.lt (by simp)
  obtain ⟨gn, hgn⟩ : ∃ gn, gn = w.heap.size := ⟨_, rfl⟩
  have hwn : w.heap.size ≤ gn := by omega
  rw [← hgn] at hN0 hz1 ⊢
  clear hgn
  obtain ⟨B, hB⟩ : ∃ B, B = gn + 1 := ⟨_, rfl⟩
  have hB1 : B ≤ gn + 1 := by omega
  have hB2 : gn + 1 ≤ B := by omega
  clear hB
  go_wp2_with fail
  go_loopw [3, 5] (fun s3 s5 wr => ∃ (i : Nat) (g : List OpW) (ga : Option Addr) (gc : Nat), s3 = .slice ga g.length gc ∧ s5 = .int .i64 i ∧ i ≤ l.length ∧ g.length = i ∧ g.map OpW.o = rowL z6 ((l.map OpW.o).take i) ∧ Blk wr gn (is (rowN z6 ((l.map OpW.o).take i))) ∧ Own wr B ga 11 g.length gc (rows OpW.cells g) ∧ (∀ x ∈ g, x.good wr) ∧ (∀ x ∈ g, x.o.dots ≠ [] → Apart x.a ga) ∧ (∀ x ∈ g, ∀ ad, x.a = some ad → B ≤ ad.block) ∧ Ext no w wr ∧ B ≤ wr.heap.size) (fun _ s5 _ => l.length - (intOf s5).toNat)
  case atStart => exact ⟨0, [], none, 0, rfl, rfl, Nat.zero_le _, rfl, rfl, hN0, Own.nil _ _ _, (fun x hx => by cases hx), (fun x hx => by cases hx), (fun x hx => by cases hx), hx1, by omega⟩
  case round =>
    obtain ⟨i, g, ga, gc, rfl, rfl, hil, hgl, hgm, hN, hown, hgg, hga, hgB, hx, hz⟩ := hrel
    have Hgl := Lib.hid hgl
    clear hgl
    by_cases hin : i < l.length
    · have d1 : decide (i < l.length) = true := decT hin
      have d2 : decide ((i : Int) < 60) = true := decT (by omega)
      obtain ⟨x, hxm⟩ : ∃ x, l[i]? = some x := ⟨_, List.getElem?_eq_getElem hin⟩
      have hgx := (Hg.out x (List.mem_of_getElem? hxm)).no hx
      obtain ⟨b, off, rfl, _⟩ := rows_shape kOp (by omega) hr (by omega)
      have hrr := hr.ext hx (fun _ _ h => h)
      have hlt : (l.map OpW.o).take (i + 1) = (l.map OpW.o).take i ++ [x.o] := by
        rw [List.take_succ_eq_append_getElem (by simpa using hin)]
        congr 2
        rw [List.getElem_map, (List.getElem?_eq_some_iff.1 hxm).2]
      obtain ⟨nn, hnn⟩ : ∃ nn, nn = rowN z6 ((l.map OpW.o).take i) := ⟨_, rfl⟩
      have hn6 : nn.length = 6 := by rw [hnn, rowN_length]; rfl
      obtain ⟨dv, hdv⟩ : ∃ dv, dv = devN x.o := ⟨_, rfl⟩
      have hdv6 : dv < 6 := by rw [hdv]; exact devN_lt _
      obtain ⟨nv, hnv⟩ : ∃ nv, nv = nn.getD dv 0 := ⟨_, rfl⟩
      have hnb : 0 ≤ nv ∧ nv ≤ 1000 := by
        have := rowN_bound ((l.map OpW.o).take i) z6 0 rfl (fun j => by
          have : z6.getD j 0 = 0 := by
            rcases Nat.lt_or_ge j 6 with h | h
            · rcases (show j = 0 ∨ j = 1 ∨ j = 2 ∨ j = 3 ∨ j = 4 ∨ j = 5 by omega) with rfl | rfl | rfl | rfl | rfl | rfl <;> rfl
            · rw [List.getD_eq_getElem?_getD, List.getElem?_eq_none (show z6.length ≤ j from h)]; rfl
          rw [this]; omega) dv
        rw [← hnn, ← hnv, List.length_take, List.length_map] at this
        omega
      have hgap := gap_pos x.o
      obtain ⟨G, hG⟩ : ∃ G, G = gap x.o := ⟨_, rfl⟩
      have hq4 : (x.o.dot.seq % 5).tdiv 4 = G - 1 := by rw [quarter, hG]; unfold gap; omega
      have hrow : rowL z6 ((l.map OpW.o).take (i + 1)) = rowL z6 ((l.map OpW.o).take i) ++ [rowOp x.o (nv + G)] := by
        rw [hlt, rowL_append, ← hnn]
        simp only [rowL]
        rw [← hdv, ← hnv, ← hG]
      have hnext : rowN z6 ((l.map OpW.o).take (i + 1)) = nn.set dv (nv + G) := by
        rw [hlt, rowN_append, ← hnn]
        simp only [rowN, nextN]
        rw [← hdv, ← hnv, ← hG]
      rw [← hnn] at hN
      have Hrow := Lib.hid hrow
      have Hnext := Lib.hid hnext
      have Hgm := Lib.hid hgm
      have hdvE := devN_eq x.o
      rw [← hdv] at hdvE
      have HdvE := Lib.hid hdvE
      clear hdvE
      rw [← hG] at hgap
      clear hrow hnext hgm hlt hnn hG hdv
      have q0 : wr.cell? ⟨b, off + i * 11, none⟩ = some (.int .i64 x.o.dot.dev) := rows_cell kOp hrr hxm 0 _ rfl
      have q1 : wr.cell? ⟨b, off + i * 11 + 1, none⟩ = some (.int .i64 x.o.dot.ep) := rows_cell kOp hrr hxm 1 _ rfl
      have q2 : wr.cell? ⟨b, off + i * 11 + 2, none⟩ = some (.int .i64 x.o.dot.seq) := rows_cell kOp hrr hxm 2 _ rfl
      have q3 : wr.cell? ⟨b, off + i * 11 + 3, none⟩ = some (.int .i64 x.o.coll) := rows_cell kOp hrr hxm 3 _ rfl
      have q4 : wr.cell? ⟨b, off + i * 11 + 4, none⟩ = some (.int .i64 x.o.ver) := rows_cell kOp hrr hxm 4 _ rfl
      have q5 : wr.cell? ⟨b, off + i * 11 + 5, none⟩ = some (.int .i64 x.o.kind) := rows_cell kOp hrr hxm 5 _ rfl
      have q6 : wr.cell? ⟨b, off + i * 11 + 6, none⟩ = some (.string (str x.o.key)) := rows_cell kOp hrr hxm 6 _ rfl
      have q7 : wr.cell? ⟨b, off + i * 11 + 7, none⟩ = some (.string (str x.o.text)) := rows_cell kOp hrr hxm 7 _ rfl
      have q8 : wr.cell? ⟨b, off + i * 11 + 8, none⟩ = some (.int .i64 x.o.n) := rows_cell kOp hrr hxm 8 _ rfl
      have q9 : wr.cell? ⟨b, off + i * 11 + 9, none⟩ = some (.int .i64 x.o.time) := rows_cell kOp hrr hxm 9 _ rfl
      have q10 : wr.cell? ⟨b, off + i * 11 + 10, none⟩ = some (.slice x.a x.o.dots.length x.c) := rows_cell kOp hrr hxm 10 _ rfl
      have hyn : wr.cell? ⟨gn, dv, none⟩ = some (.int .i64 nv) := hN.cell dv _ (by simp [is, I64, hnv, List.getD_eq_getElem?_getD, show dv < nn.length by omega])
      clear hnv
      have hok := hgx.ok
      have hrd := hgx.rd
      have hfd := hgx.lc
      have hfc := hgx.cm
      go_wp2_with fail
      refine (good_any wr x.o x.a x.c hok hrd hfd hfc).mono ?_
      rintro e w2 ⟨pa, pc, rfl, hprd, hpl, hpc, hx2, hpf⟩
      obtain ⟨p, hp⟩ : ∃ p, p = goodOp x.o := ⟨_, rfl⟩
      rw [← hp] at hprd hpl ⊢
      have Hpd := Lib.hid (show p.dot.dev = dv by rw [hp, HdvE.out]; rfl)
      have Hp := Lib.hid hp
      clear hp
      have hN2 := hN.ext (by intro e; have := congrArg List.length e; simp [hn6] at this) hx2 (fun h => h)
      have hown2 := hown.ext hx2 (fun _ _ h => h)
      have hqs : w2.cell? ⟨b, off + i * 11 + 2, none⟩ = some (.int .i64 x.o.dot.seq) := hx2.keeps q2 (fun h => h)
      have hyn2 := hx2.keeps hyn (fun h => h)
      have hxx := hx.comp hx2
      have hz2 := hx2.size
      have hseq := hok.dot.2.2
      have hgar : ∀ ad, ga = some ad → ad.block < wr.heap.size := fun ad ha => (hown.base ad ha).2.1
      clear q0 q1 q2 q3 q4 q5 q6 q7 q8 q9 q10 hyn hrr hrd hfd hfc hN
      unfold OpR.v
      go_upto_region 7 with fail
      have hP := Blk.lit w2 #[.int .i64 p.dot.dev, .int .i64 p.dot.ep, .int .i64 p.dot.seq, .int .i64 p.coll, .int .i64 p.ver, .int .i64 p.kind, .string (str p.key), .string (str p.text), .int .i64 p.n, .int .i64 p.time, .slice pa p.dots.length pc] 51
      have hxa := Ext.alloc no w2 (.cells #[.int .i64 p.dot.dev, .int .i64 p.dot.ep, .int .i64 p.dot.seq, .int .i64 p.coll, .int .i64 p.ver, .int .i64 p.kind, .string (str p.key), .string (str p.text), .int .i64 p.n, .int .i64 p.time, .slice pa p.dots.length pc] 51)
      have hN3 := hN2.ext (by intro e; have := congrArg List.length e; simp [hn6] at this) hxa (fun h => h)
      have hown3 := hown2.ext hxa (fun _ _ h => h)
      have hqs3 := hxa.keeps hqs (fun h => h)
      have hyn3 := hxa.keeps hyn2 (fun h => h)
      have hprd3 := hprd.ext hxa (fun _ _ h => h)
      have hx3 := hxx.comp hxa
      have hz3 := hP.lt (by simp)
      obtain ⟨gb, hgb⟩ : ∃ gb, gb = w2.heap.size := ⟨_, rfl⟩
      rw [← hgb] at hP hz3 hz2 ⊢
      have hpf2 : p.dots ≠ [] → ∀ ad, pa = some ad → ad.block < gb := by
        intro hne ad ha
        obtain ⟨ad', ha', hlt⟩ := hprd.ne (by
          have := hprd
          have e := ds_length p.dots
          have : 0 < p.dots.length := List.length_pos_iff.2 hne
          omega)
        rw [ha] at ha'
        cases ha'
        omega
      have hglt : ∀ y ∈ g, y.o.dots ≠ [] → ∀ ad, y.a = some ad → ad.block < gb := by
        intro y hy hne ad ha
        obtain ⟨ad', ha', hlt⟩ := ((hgg y hy).no hx2).rd.ne (by have := ds_length y.o.dots; have : 0 < y.o.dots.length := List.length_pos_iff.2 hne; omega)
        rw [ha] at ha'
        cases ha'
        omega
      have hgab : ∀ ad, ga = some ad → ad.block < gb := fun ad ha => by have := (hown2.base ad ha).2.1; omega
      clear hN2 hown2 hqs hyn2 hxx hprd
      generalize w2.alloc (.cells #[.int .i64 p.dot.dev, .int .i64 p.dot.ep, .int .i64 p.dot.seq, .int .i64 p.coll, .int .i64 p.ver, .int .i64 p.kind, .string (str p.key), .string (str p.text), .int .i64 p.n, .int .i64 p.time, .slice pa p.dots.length pc] 51) = w3 at *
      have hgoodg : ∀ y ∈ g, y.good w3 := fun y hy => ((hgg y hy).no hx2).no hxa
      clear hgb hxa hgg hx2
      have y0 : w3.cell? ⟨gb, 0, none⟩ = some (.int .i64 (dv : Int)) := by have := hP.cell 0 _ rfl; rw [Hpd.out] at this; exact this
      have fyn := hN3.fr dv
      go_upto_region 7 with fail
      refine wp_region_F [2, 5, 7, 14] (looks [(2, fun z => Ext no w3 z), (5, fun z => Ext no w3 z), (7, fun z => Ext no w3 z), (14, fun z => Ext no w3 z)]) (by kernel_rfl) ?_
      have hT0 : ∀ k, looks [(2, fun z => Ext no w3 z), (5, fun z => Ext no w3 z), (7, fun z => Ext no w3 z), (14, fun z => Ext no w3 z)] k (w3.drew) := looks_all ⟨Ext.drew no w3, Ext.drew no w3, Ext.drew no w3, Ext.drew no w3, trivial⟩
      refine wpF_take 0 (v := ?_) rfl (by kernel_rfl) (by kernel_rfl) (by kernel_rfl) (fun _ _ _ h => h) hT0 (by rfl) ?_ ?_
      rotate_left
      · (intro wq; go_simp; try with_reducible rfl)
      simp only [pz]
      refine wpF_take 1 (v := ?_) rfl (by kernel_rfl) (by kernel_rfl) (by kernel_rfl) (fun _ _ _ h => h) hT0 (by rfl) ?_ ?_
      rotate_left
      · (intro wq; go_simp; try with_reducible rfl)
      simp only [pz]
      refine wpF_look 2 (v := .int .i64 (dv : Int)) rfl rfl (by kernel_rfl) (by kernel_rfl) (by kernel_rfl) (by kernel_rfl) (fun _ _ _ h => h) hT0 (by rfl) (fun w hS => by have hS : Ext no w3 w := hS; have q0 := hS.keeps y0 (fun h => h); go_simp) ?_
      simp only [pz]
      refine wpF_take 3 (v := ?_) rfl (by kernel_rfl) (by kernel_rfl) (by kernel_rfl) (fun _ _ _ h => h) hT0 (by rfl) ?_ ?_
      rotate_left
      · (intro wq; go_simp; try with_reducible rfl)
      simp only [pz]
      refine wpF_take 4 (v := ?_) rfl (by kernel_rfl) (by kernel_rfl) (by kernel_rfl) (fun _ _ _ h => h) hT0 (by rfl) ?_ ?_
      rotate_left
      · (intro wq; go_simp; try with_reducible rfl)
      simp only [pz]
      refine wpF_look 5 (v := .int .i64 (dv : Int)) rfl rfl (by kernel_rfl) (by kernel_rfl) (by kernel_rfl) (by kernel_rfl) (fun _ _ _ h => h) hT0 (by rfl) (fun w hS => by have hS : Ext no w3 w := hS; have q0 := hS.keeps y0 (fun h => h); go_simp) ?_
      simp only [pz]
      refine wpF_take 6 (v := .pointer (some ⟨gn, dv, none⟩)) rfl (by kernel_rfl) (by kernel_rfl) (by kernel_rfl) (fun _ _ _ h => h) hT0 (by rfl) (by intro wq; go_simp; first | done | (intro hh; exfalso; omega)) ?_
      simp only [pz]
      refine wpF_look 7 (v := .int .i64 nv) rfl rfl (by kernel_rfl) (by kernel_rfl) (by kernel_rfl) (by kernel_rfl) (fun _ _ _ h => h) hT0 (by rfl) (fun w hS => by have hS : Ext no w3 w := hS; have q0 := hS.keeps hyn3 (fun h => h); go_simp) ?_
      simp only [pz]
      refine wpF_take 8 (v := .int .i64 (nv + 1)) rfl (by kernel_rfl) (by kernel_rfl) (by kernel_rfl) (fun _ _ _ h => h) hT0 (by rfl) (by intro wq; go_simp; first | done | rfl | (rw [IntKind.wrap_i64]; omega)) ?_
      simp only [pz]
      refine wpF_take 9 (v := ?_) rfl (by kernel_rfl) (by kernel_rfl) (by kernel_rfl) (fun _ _ _ h => h) hT0 (by rfl) ?_ ?_
      rotate_left
      · (intro wq; go_simp; try with_reducible rfl)
      simp only [pz]
      refine wpF_take 10 (v := ?_) rfl (by kernel_rfl) (by kernel_rfl) (by kernel_rfl) (fun _ _ _ h => h) hT0 (by rfl) ?_ ?_
      rotate_left
      · (intro wq; go_simp; try with_reducible rfl)
      simp only [pz]
      refine wpF_take 11 (v := .pointer (some ⟨b, off + i * 11, none⟩)) rfl (by kernel_rfl) (by kernel_rfl) (by kernel_rfl) (fun _ _ _ h => h) hT0 (by rfl) (by intro wq; go_simp) ?_
      simp only [pz]
      refine wpF_take 12 (v := ?_) rfl (by kernel_rfl) (by kernel_rfl) (by kernel_rfl) (fun _ _ _ h => h) hT0 (by rfl) ?_ ?_
      rotate_left
      · (intro wq; go_simp; try with_reducible rfl)
      simp only [pz]
      refine wpF_take 13 (v := ?_) rfl (by kernel_rfl) (by kernel_rfl) (by kernel_rfl) (fun _ _ _ h => h) hT0 (by rfl) ?_ ?_
      rotate_left
      · (intro wq; go_simp; try with_reducible rfl)
      simp only [pz]
      refine wpF_look 14 (v := .int .i64 x.o.dot.seq) rfl rfl (by kernel_rfl) (by kernel_rfl) (by kernel_rfl) (by kernel_rfl) (fun _ _ _ h => h) hT0 (by rfl) (fun w hS => by have hS : Ext no w3 w := hS; have q0 := hS.keeps hqs3 (fun h => h); go_simp) ?_
      simp only [pz]
      refine wpF_call 15 (v := .int .i64 (x.o.dot.seq % 5)) 9 #[.int .i64 x.o.dot.seq, .int .i64 5] rfl (by kernel_rfl) (by kernel_rfl) (by kernel_rfl) (fun _ _ _ h => h) hT0 (by rfl) (by intro wq; go_simp; try with_reducible rfl) (fun wz => cowithin_any x.o.dot.seq 5 wz (by omega) (by omega) hseq) ?_
      simp only [pz]
      refine wpF_take 16 (v := .int .i64 (G - 1)) rfl (by kernel_rfl) (by kernel_rfl) (by kernel_rfl) (fun _ _ _ h => h) hT0 (by rfl) (by intro wq; go_simp; first | done | rfl | rw [hq4] | (rw [hq4, IntKind.wrap_i64]; omega) | (rw [IntKind.wrap_i64]; omega)) ?_
      simp only [pz]
      refine wpF_take 17 (v := .int .i64 (nv + G)) rfl (by kernel_rfl) (by kernel_rfl) (by kernel_rfl) (fun _ _ _ h => h) hT0 (by rfl) (by intro wq; go_simp; first | done | rfl | (rw [IntKind.wrap_i64]; omega)) ?_
      simp only [pz]
      refine wpF_take 18 (v := .pointer (some ⟨gn, dv, none⟩)) rfl (by kernel_rfl) (by kernel_rfl) (by kernel_rfl) (fun _ _ _ h => h) hT0 (by rfl) (by intro wq; go_simp; first | done | (intro hh; exfalso; omega)) ?_
      simp only [pz]
      refine wpF_exec 19 rfl (by kernel_rfl) (by rfl) ?_
      intro K hK
      go_simp
      have hT1 : ∀ k, looks [(2, fun z => True), (5, fun z => True), (7, fun z => True), (14, fun z => True)] k ((w3.setCell ⟨gn, dv, none⟩ (.int .i64 (nv + G))).drew) := looks_all ⟨trivial, trivial, trivial, trivial, trivial⟩
      refine hK _ _ (looks [(2, fun z => True), (5, fun z => True), (7, fun z => True), (14, fun z => True)]) ⟨.inr (.inl (by kernel_rfl)), .inr (.inl (by kernel_rfl)), .inr (.inl (by kernel_rfl)), .inr (.inl (by kernel_rfl)), trivial⟩ hT1 ?_
      clear hK K
      try simp only [pz]
      refine wpF_done (by kernel_rfl) ?_ _
      have hN4 : Blk (w3.setCell ⟨gn, dv, none⟩ (.int .i64 (nv + G))).drew gn (is (nn.set dv (nv + G))) := by
        have q := hN3.set dv (.int .i64 (nv + G)) (by simp [hn6]; omega)
        rw [show (is nn).set dv (.int .i64 (nv + G)) = is (nn.set dv (nv + G)) by simp [is, List.map_set, I64]] at q
        exact q.drew
      have hxs : Ext (just gn) w3 (w3.setCell ⟨gn, dv, none⟩ (.int .i64 (nv + G))).drew := (Ext.setCell (S := just gn) w3 ⟨gn, dv, none⟩ (.int .i64 (nv + G)) rfl).comp (Ext.drew _ _)
      have hP4 := hP.ext (by simp) hxs (fun e => by have e : gb = gn := e; omega)
      have hown4 := hown3.ext hxs (fun ad ha e => by have e : ad.block = gn := e; have := (hown3.base ad ha).1; omega)
      have hprd4 := Rd.extN hprd3 hxs (fun hne ad ha e => by have e : ad.block = gn := e; have := hpf ad ha; omega)
      have hx4 := hx3.trans hxs (fun k hk e => by have e : k = gn := e; omega)
      have hz4 := hxs.size
      have hgood4 : ∀ y ∈ g, y.good (w3.setCell ⟨gn, dv, none⟩ (.int .i64 (nv + G))).drew := by
        intro y hy
        have hyg := hgoodg y hy
        exact ⟨hyg.ok, Rd.extN hyg.rd hxs (fun hne ad ha e => by have e : ad.block = gn := e; have := hgB y hy ad ha; omega), hyg.lc, hyg.cm⟩
      clear hN3 hP hown3 hprd3 hx3 hxs y0 fyn hqs3 hyn3 hgoodg
      generalize (w3.setCell ⟨gn, dv, none⟩ (.int .i64 (nv + G))).drew = w4 at *
      have hyd : w4.cell? ⟨gn, dv, none⟩ = some (.int .i64 (nv + G)) := hN4.cell dv _ (by simp [is, I64, List.getElem?_set, hn6]; exact hdv6)
      have b0 : w4.cell? ⟨gb, 0, none⟩ = some (.int .i64 (dv : Int)) := by have := hP4.cell 0 _ rfl; rw [Hpd.out] at this; exact this
      have b1 := hP4.cell 1 _ rfl
      have b2 := hP4.cell 2 _ rfl
      have fb1 := hP4.fr 1
      have fb2 := hP4.fr 2
      go_upto_region 8 with fail
      refine wp_region_F [2, 4] (looks [(2, fun z => Ext no w4 z), (4, fun z => (z).cell? ⟨gn, dv, none⟩ = some (.int .i64 (nv + G)))]) (by kernel_rfl) ?_
      have hxd := Ext.drew no w4
      have hyd2 : w4.drew.cell? ⟨gn, dv, none⟩ = some (.int .i64 (nv + G)) := hyd
      have hPd := hP4.ext (by simp) hxd (fun h => h)
      clear b1 b2 fb1 fb2
      generalize w4.drew = wd at *
      have b1 := hPd.cell 1 _ rfl
      have b2 := hPd.cell 2 _ rfl
      have fb1 := hPd.fr 1
      have fb2 := hPd.fr 2
      have hT0 : ∀ k, looks [(2, fun z => Ext no w4 z), (4, fun z => (z).cell? ⟨gn, dv, none⟩ = some (.int .i64 (nv + G)))] k (wd) := looks_all ⟨hxd, hyd2, trivial⟩
      refine wpF_take 0 (v := ?_) rfl (by kernel_rfl) (by kernel_rfl) (by kernel_rfl) (fun _ _ _ h => h) hT0 (by rfl) ?_ ?_
      rotate_left
      · (intro wq; go_simp; try with_reducible rfl)
      simp only [pz]
      refine wpF_take 1 (v := ?_) rfl (by kernel_rfl) (by kernel_rfl) (by kernel_rfl) (fun _ _ _ h => h) hT0 (by rfl) ?_ ?_
      rotate_left
      · (intro wq; go_simp; try with_reducible rfl)
      simp only [pz]
      refine wpF_look 2 (v := .int .i64 (dv : Int)) rfl rfl (by kernel_rfl) (by kernel_rfl) (by kernel_rfl) (by kernel_rfl) (fun _ _ _ h => h) hT0 (by rfl) (fun w hS => by have hS : Ext no w4 w := hS; have q0 := hS.keeps b0 (fun h => h); go_simp) ?_
      simp only [pz]
      refine wpF_take 3 (v := .pointer (some ⟨gn, dv, none⟩)) rfl (by kernel_rfl) (by kernel_rfl) (by kernel_rfl) (fun _ _ _ h => h) hT0 (by rfl) (by intro wq; go_simp; first | done | (intro hh; exfalso; omega)) ?_
      simp only [pz]
      refine wpF_look 4 (v := .int .i64 (nv + G)) rfl rfl (by kernel_rfl) (by kernel_rfl) (by kernel_rfl) (by kernel_rfl) (fun _ _ _ h => h) hT0 (by rfl) (fun w hS => by have hS : (w).cell? ⟨gn, dv, none⟩ = some (.int .i64 (nv + G)) := hS; go_simp) ?_
      simp only [pz]
      refine wpF_take 5 (v := ?_) rfl (by kernel_rfl) (by kernel_rfl) (by kernel_rfl) (fun _ _ _ h => h) hT0 (by rfl) ?_ ?_
      rotate_left
      · (intro wq; go_simp; try with_reducible rfl)
      simp only [pz]
      refine wpF_take 6 (v := ?_) rfl (by kernel_rfl) (by kernel_rfl) (by kernel_rfl) (fun _ _ _ h => h) hT0 (by rfl) ?_ ?_
      rotate_left
      · (intro wq; go_simp; try with_reducible rfl)
      simp only [pz]
      refine wpF_exec 7 rfl (by kernel_rfl) (by rfl) ?_
      intro K hK
      go_simp
      have hT1 : ∀ k, looks [(2, fun z => True), (4, fun z => (z).cell? ⟨gn, dv, none⟩ = some (.int .i64 (nv + G)))] k (wd.setCell ⟨gb, 1, none⟩ (.int .i64 1)) := looks_all ⟨trivial, ((Ext.setCell (S := just gb) wd ⟨gb, 1, none⟩ (.int .i64 1) rfl).keeps hyd2 (fun e => by have e : gn = gb := e; omega)), trivial⟩
      refine hK _ _ (looks [(2, fun z => True), (4, fun z => (z).cell? ⟨gn, dv, none⟩ = some (.int .i64 (nv + G)))]) ⟨.inr (.inl (by kernel_rfl)), .inr (.inr (fun x h => h)), trivial⟩ hT1 ?_
      clear hK K
      try simp only [pz]
      refine wpF_take 8 (v := ?_) rfl (by kernel_rfl) (by kernel_rfl) (by kernel_rfl) (fun _ _ _ h => h) hT1 (by rfl) ?_ ?_
      rotate_left
      · (intro wq; go_simp; try with_reducible rfl)
      simp only [pz]
      refine wpF_take 9 (v := ?_) rfl (by kernel_rfl) (by kernel_rfl) (by kernel_rfl) (fun _ _ _ h => h) hT1 (by rfl) ?_ ?_
      rotate_left
      · (intro wq; go_simp; try with_reducible rfl)
      simp only [pz]
      refine wpF_exec 10 rfl (by kernel_rfl) (by rfl) ?_
      intro K hK
      go_simp
      have hT2 : ∀ k, looks [(2, fun z => True), (4, fun z => (z).cell? ⟨gn, dv, none⟩ = some (.int .i64 (nv + G)))] k ((wd.setCell ⟨gb, 1, none⟩ (.int .i64 1)).setCell ⟨gb, 2, none⟩ (.int .i64 (nv + G))) := looks_all ⟨trivial, (((Ext.setCell (S := just gb) wd ⟨gb, 1, none⟩ (.int .i64 1) rfl).comp (Ext.setCell _ ⟨gb, 2, none⟩ (.int .i64 (nv + G)) rfl)).keeps hyd2 (fun e => by have e : gn = gb := e; omega)), trivial⟩
      refine hK _ _ (looks [(2, fun z => True), (4, fun z => (z).cell? ⟨gn, dv, none⟩ = some (.int .i64 (nv + G)))]) ⟨.inr (.inl (by kernel_rfl)), .inr (.inl (by kernel_rfl)), trivial⟩ hT2 ?_
      clear hK K
      try simp only [pz]
      refine wpF_done (by kernel_rfl) ?_ _
      have hP5 := (hPd.set 1 (.int .i64 1) (by simp)).set 2 (.int .i64 (nv + G)) (by simp)
      have hxs : Ext (just gb) w4 ((wd.setCell ⟨gb, 1, none⟩ (.int .i64 1)).setCell ⟨gb, 2, none⟩ (.int .i64 (nv + G))) := ((hxd.mono (fun _ _ h => absurd h (fun h => h))).comp (Ext.setCell (S := just gb) _ ⟨gb, 1, none⟩ (.int .i64 1) rfl)).comp (Ext.setCell (S := just gb) _ ⟨gb, 2, none⟩ (.int .i64 (nv + G)) rfl)
      have hN6 := hN4.ext (by intro e; have := congrArg List.length e; simp [hn6] at this) hxs (fun e => by have e : gn = gb := e; omega)
      have hown6 := hown4.ext hxs (fun ad ha e => by have e : ad.block = gb := e; have := hgab ad ha; omega)
      have hprd6 := Rd.extN hprd4 hxs (fun hne ad ha e => by have e : ad.block = gb := e; have := hpf2 (ds_nil hne) ad ha; omega)
      have hx6 := hx4.trans hxs (fun k hk e => by have e : k = gb := e; omega)
      have hz6 := hxs.size
      have hgood6 : ∀ y ∈ g, y.good ((wd.setCell ⟨gb, 1, none⟩ (.int .i64 1)).setCell ⟨gb, 2, none⟩ (.int .i64 (nv + G))) := by
        intro y hy
        have hyg := hgood4 y hy
        refine ⟨hyg.ok, Rd.extN hyg.rd hxs (fun hne ad ha e => by have e : ad.block = gb := e; have := hglt y hy (ds_nil hne) ad ha; omega), hyg.lc, hyg.cm⟩
      clear hN4 hown4 hprd4 hx4 hxs hxd hyd hyd2 b0 b1 b2 fb1 fb2 hP4 hPd hgood4
      generalize (wd.setCell ⟨gb, 1, none⟩ (.int .i64 1)).setCell ⟨gb, 2, none⟩ (.int .i64 (nv + G)) = w6 at *
      have hP6 : Blk w6 gb [.int .i64 (dv : Int), .int .i64 1, .int .i64 (nv + G), .int .i64 p.coll, .int .i64 p.ver, .int .i64 p.kind, .string (str p.key), .string (str p.text), .int .i64 p.n, .int .i64 p.time, .slice pa p.dots.length pc] := by
        have q := hP5
        rw [Hpd.out] at q
        exact q
      have b0 := hP6.cell 0 _ rfl
      have b1 := hP6.cell 1 _ rfl
      have b2 := hP6.cell 2 _ rfl
      have b3 := hP6.cell 3 _ rfl
      have b4 := hP6.cell 4 _ rfl
      have b5 := hP6.cell 5 _ rfl
      have b6 := hP6.cell 6 _ rfl
      have b7 := hP6.cell 7 _ rfl
      have b8 := hP6.cell 8 _ rfl
      have b9 := hP6.cell 9 _ rfl
      have b10 := hP6.cell 10 _ rfl
      have hxc := Ext.alloc no w6 (.cells #[.int .i64 (dv : Int), .int .i64 1, .int .i64 (nv + G), .int .i64 p.coll, .int .i64 p.ver, .int .i64 p.kind, .string (str p.key), .string (str p.text), .int .i64 p.n, .int .i64 p.time, .slice pa p.dots.length pc] 51)
      have hrok := rowOp_ok x.o hok (nv + G) (by omega) (by omega)
      have hro : rowOp x.o (nv + G) = { p with dot := ⟨dv, 1, nv + G⟩ } := by rw [Hp.out, HdvE.out]; rfl
      rw [hro] at hrok
      have Hro := Lib.hid hro
      clear hro
      go_wp2_with (at_builtin; refine wpList_append TOps rfl rfl rfl (hown6.alloc _) rfl (Rd.lit w6 #[.int .i64 (dv : Int), .int .i64 1, .int .i64 (nv + G), .int .i64 p.coll, .int .i64 p.ver, .int .i64 p.kind, .string (str p.key), .string (str p.text), .int .i64 p.n, .int .i64 p.time, .slice pa p.dots.length pc] 51 (0, 0)) (m := 1) rfl (oneOp ⟨{ p with dot := ⟨dv, 1, nv + G⟩ }, pa, pc⟩) (by have := Hgl.out; unfold maxLen; omega) (by have := Hgl.out; omega) (by simp; omega) ?_)
      intro a' c' w7 happ
      have hown7 := happ.own
      have hxe := happ.ext
      have hloc := happ.loc
      have hz7 := hxe.size
      rw [World.size_alloc] at hz7
      have hN7 := (hN6.ext (by intro e; have := congrArg List.length e; simp [hn6] at this) hxc (fun h => h)).ext (by intro e; have := congrArg List.length e; simp [hn6] at this) hxe (by rintro ⟨ad, ha, e⟩; have := (hown6.base ad ha).1; omega)
      have hx7 : Ext no w w7 := (hx6.comp hxc).trans hxe (fun k hk => by rintro ⟨ad, ha, e⟩; have := (hown6.base ad ha).1; omega)
      have hgood7 : ∀ y ∈ g ++ [(⟨{ p with dot := ⟨dv, 1, nv + G⟩ }, pa, pc⟩ : OpW)], y.good w7 := by
        intro y hy
        rcases List.mem_append.1 hy with hy | hy
        · have hyg := hgood6 y hy
          exact ⟨hyg.ok, Rd.extN (hyg.rd.ext hxc (fun _ _ h => h)) hxe (fun hne ad ha => by rintro ⟨bd, hb, e⟩; exact hga y hy (ds_nil hne) ad bd ha hb e.symm), hyg.lc, hyg.cm⟩
        · rw [List.mem_singleton.1 hy]
          exact ⟨hrok.1, Rd.extN (hprd6.ext hxc (fun _ _ h => h)) hxe (fun hne ad ha => by rintro ⟨bd, hb, e⟩; have := hpf ad ha; have := hgar bd hb; omega), hpl, hpc⟩
      have hap7 : ∀ y ∈ g ++ [(⟨{ p with dot := ⟨dv, 1, nv + G⟩ }, pa, pc⟩ : OpW)], y.o.dots ≠ [] → Apart y.a a' := by
        intro y hy hne
        rcases hloc with ⟨rfl, _⟩ | hfr
        · rcases List.mem_append.1 hy with hy | hy
          · exact hga y hy hne
          · rw [List.mem_singleton.1 hy]
            intro ad bd ha hb
            have := hpf ad ha
            have := hgar bd hb
            omega
        · intro ad bd ha hb
          have h1 := hfr bd hb
          rw [World.size_alloc] at h1
          rcases List.mem_append.1 hy with hy | hy
          · obtain ⟨ad', ha', hlt⟩ := (hgood6 y hy).rd.ne (by have := ds_length y.o.dots; have : 0 < y.o.dots.length := List.length_pos_iff.2 hne; omega)
            rw [ha] at ha'
            cases ha'
            omega
          · rw [List.mem_singleton.1 hy] at hne ha
            have := hpf2 hne ad ha
            omega
      have hB7 : ∀ y ∈ g ++ [(⟨{ p with dot := ⟨dv, 1, nv + G⟩ }, pa, pc⟩ : OpW)], ∀ ad, y.a = some ad → B ≤ ad.block := by
        intro y hy ad ha
        rcases List.mem_append.1 hy with hy | hy
        · exact hgB y hy ad ha
        · rw [List.mem_singleton.1 hy] at ha
          have := hpf ad ha
          omega
      clear b0 b1 b2 b3 b4 b5 b6 b7 b8 b9 b10
      go_wp2_with fail
      go_roundw
      case rel => exact ⟨i + 1, g ++ [⟨{ p with dot := ⟨dv, 1, nv + G⟩ }, pa, pc⟩], a', c', by rw [List.length_append]; rfl, by go_num, by omega, by rw [List.length_append, Hgl.out]; rfl, by rw [List.map_append, Hgm.out, Hrow.out, Hro.out]; rfl, by rw [Hnext.out]; exact hN7, by rw [List.length_append, rows_append, rows_one]; exact hown7, hgood7, hap7, hB7, hx7, by omega⟩
      case measure => simp [intOf]; omega
    · obtain rfl : i = l.length := by omega
      have d1 : decide (l.length < l.length) = false := decF (by omega)
      rw [List.take_of_length_le (by simp)] at hgm
      have Hgm := Lib.hid hgm
      clear hgm
      go_wp2_with fail
      go_ret
      exact ⟨g, ga, gc, rfl, hown.mono (by omega), Hgm.out, hgg, hga, hx⟩
end Go.Proofs.YtejmmkjpncpedaaGreat
