/- The texts WiC WiL in one. -/
import Derived.Test.YtddobhihjljcgaaGreatWiAM
import Derived.Test.YtddobhihjljcgaaGreatMA
import Derived.Test.YtddobhihjljcgaaGreatOpUX
import Derived.Deep.MidRow
/- A writer's methods; wire.Cmd. -/
namespace Go.Proofs.YtddobhihjljcgaaGreat
open Go.RowKit Go.Esc
set_option linter.unusedVariables false
set_option linter.unusedSimpArgs false
theorem encs_take' (t : List Int) (j : Nat) (n : Int) (h : t[j]? = some n) : encs (t.take (j + 1)) = encs (t.take j) ++ encI n := encs_take t j n h
set_option maxHeartbeats 1000000 in
theorem wints_any (w : World) (g : Nat) (b : Option Addr) (cb : Nat) (l : List UInt8) (t : List Int) (hw : Wtr 95 w g l) (hl : l.length ≤ 4000000) (hrd : Rd w b (is t)) (ht : t.length ≤ 1000) (hok : ∀ n ∈ t, I64ok n) :
  Calls Tryz.prog 44 #[.pointer (some ⟨g, 0, none⟩), .slice b t.length cb] w fun e w' => e = .returned (.tuple #[]) ∧ Wtr 95 w' g (l ++ encs t) ∧ Ext (just g) w w' := by
 go_enter Tryz.func44, Tryz.ntmps44
 go_wp2_with fail
 go_loopw [8] (fun s8 wr => ∃ j : Nat, s8 = .int .i64 j ∧ j ≤ t.length ∧ Wtr 95 wr g (l ++ encs (t.take j)) ∧ Ext (just g) w wr) (fun s8 _ => t.length - (intOf s8).toNat)
 case atStart => exact ⟨0, rfl, Nat.zero_le _, by simpa [encs] using hw, Ext.refl _ _⟩
 case round =>
  obtain ⟨j, rfl, hj, hwr, hx⟩ := hrel
  have hrr := hw.keeps hx hrd (plain_is t)
  obtain ⟨M, hM⟩ : ∃ M, M = l ++ encs (t.take j) := ⟨_, rfl⟩
  rw [← hM] at hwr
  have hMl : M.length ≤ 4020000 := by
   rw [hM, List.length_append]
   have := encs_len (t.take j) (fun n hn => hok n (List.mem_of_mem_take hn))
   rw [List.length_take] at this
   unfold encs
   omega
  have HM := Lib.hid hM
  clear hM
  by_cases hjl : j < t.length
  ·have d1 : decide (j < t.length) = true := decT hjl
   obtain ⟨n, hn⟩ : ∃ n, t[j]? = some n := ⟨_, List.getElem?_eq_getElem hjl⟩
   have hno := hok n (List.mem_of_getElem? hn)
   obtain ⟨ab, ao, rfl, _⟩ := hrr.shape (by rw [is_length]; omega)
   have q0 : wr.cell? ⟨ab, ao + j, none⟩ = some (.int .i64 n) := by
    have := hrr.get (j := j) (v := .int .i64 n) (by simp [is, I64, hn])
    rwa [Addr.add_lit] at this
   have Hn := Lib.hid (show l ++ encs (t.take (j + 1)) = M ++ encI n by rw [encs_take' t j n hn, HM.out, List.append_assoc])
   obtain ⟨a, c, k0, f0, hr0⟩ := hwr.open
   clear hn HM
   go_wp2_with fail
   refine (int_any wr a c M n hr0 (by omega) hno).mono ?_
   rintro e w2 ⟨a2, c2, rfl, ho2, hx2⟩
   have hp := hwr.put (c' := c2) hx2 ho2.rd rfl
   have hw2 := hwr.on hx2
   obtain ⟨a3, c3, k1, f1, _⟩ := hw2.open
   obtain ⟨M2, hM2⟩ : ∃ M2, M2 = M ++ encI n := ⟨_, rfl⟩
   rw [← hM2] at hp ⊢
   have HM2 := Lib.hid hM2
   clear hM2 ho2 k0 f0 hr0 hw2 q0
   go_wp2_with fail
   go_roundw
   case rel => exact ⟨j + 1, by go_num, by omega, hp.1.cast (by rw [Hn.out, HM2.out]), hx.comp hp.2⟩
   case measure => simp [intOf]; omega
  ·have d1 : decide (j < t.length) = false := decF hjl
   have HE := Lib.hid (show l ++ encs t = M by rw [HM.out, List.take_of_length_le (by omega)])
   go_wp2_with fail
   go_end0
   exact ⟨rfl, hwr.cast HE.out.symm, hx⟩
set_option maxHeartbeats 1000000 in
theorem wtext_any (w : World) (g : Nat) (l t : List UInt8) (hw : Wtr 95 w g l) (hl : l.length ≤ 4000000) (ht : t.length ≤ 65535) :
  Calls Tryz.prog 74 #[.pointer (some ⟨g, 0, none⟩), .string (str t)] w fun e w' => e = .returned (.tuple #[]) ∧ Wtr 95 w' g (l ++ encT t) ∧ Ext (just g) w w' := by
 obtain ⟨a, c, k0, f0, hr0⟩ := hw.open
 go_enter Tryz.func74, Tryz.ntmps74
 go_wp2_with fail
 refine (text_any w a c l t hr0 (by omega) (by omega)).mono ?_
 rintro e w2 ⟨a2, c2, rfl, ho2, hx2⟩
 have hp := hw.put (c' := c2) hx2 ho2.rd rfl
 have hw2 := hw.on hx2
 obtain ⟨a3, c3, k1, f1, _⟩ := hw2.open
 obtain ⟨M2, hM2⟩ : ∃ M2, M2 = l ++ encT t := ⟨_, rfl⟩
 rw [← hM2] at hp ⊢
 have HM2 := Lib.hid hM2
 clear hM2 ho2 k0 f0 hr0 hw2
 go_wp2_with fail
 go_end0
 exact ⟨rfl, hp.1.cast HM2.out, hp.2⟩
/-- What is wrong with a list of operations is not asked. -/
theorem opsTake (l : List OpR) (j : Nat) (o : OpR) (h : l[j]? = some o) : (l.take (j + 1)).flatMap opEnc = (l.take j).flatMap opEnc ++ opEnc o := by
 rw [List.take_add_one, h]
 simp
set_option maxRecDepth 100000 in
set_option maxHeartbeats 4000000 in
theorem wops_any (w : World) (g : Nat) (a : Option Addr) (c : Nat) (l : List UInt8) (t : List OpR) (hw : Wtr 95 w g l) (hl : l.length ≤ 3000000) (hr : OpsIn w a t) (ht : t.length ≤ 40) (hok : ∀ x ∈ t, x.ok) (hf : ∀ x ∈ t, x.few) :
  Calls Tryz.prog 47 #[.pointer (some ⟨g, 0, none⟩), .slice a t.length c] w fun e w' => e = .returned (.tuple #[]) ∧ Wtr 95 w' g (l ++ opsEnc t) ∧ Ext (just g) w w' := by
 obtain ⟨P, hP, hrd, hgd⟩ := hr
 have hPl : P.length = t.length := by rw [← hP, List.length_map]
 have HP := Lib.hid hP
 have HPl := Lib.hid hPl
 clear hP hPl
 have hwlt := hw.lt
 go_enter Tryz.func47, Tryz.ntmps47
 go_wp2_with fail
 have hx0 := Ext.alloc no w (.cells #[.int .i64 t.length] 3)
 refine (wints_any (w.alloc (.cells #[.int .i64 t.length] 3)) g (some ⟨w.heap.size, 0, none⟩) 1 l [(t.length : Int)] (hw.on hx0) (by omega) (Rd.lit w #[.int .i64 t.length] 3 (0, 0)) (by simp) (by simp [len_ok (show t.length ≤ 1000 by omega)])).mono ?_
 rintro e w1 ⟨rfl, hw1, hx1⟩
 have hx01 := (hx0.mono (S' := just g) (fun _ _ h => absurd h (fun h => h))).comp hx1
 clear hx0 hx1
 have hrd1 := hw.keeps hx01 hrd (plain_ops P)
 have hgd1 : ∀ x ∈ P, x.good w1 := fun x hx => ⟨hw.keeps hx01 (hgd x hx).rd (plain_ds _), (hgd x hx).lc, (hgd x hx).cm⟩
 clear hrd hgd
 obtain ⟨l1, hl1⟩ : ∃ l1, l1 = l ++ encs [(t.length : Int)] := ⟨_, rfl⟩
 rw [← hl1] at hw1
 have hl1l : l1.length ≤ 3000010 := by
  rw [hl1, List.length_append]
  have := encs_le (l := [(t.length : Int)]) (by simp [len_ok (show t.length ≤ 1000 by omega)])
  simp only [List.length_cons, List.length_nil] at this
  omega
 have Hl1 := Lib.hid hl1
 clear hl1 hw
 go_wp2_with fail
 go_loopw [13] (fun s13 wr => ∃ j : Nat, s13 = .int .i64 j ∧ j ≤ t.length ∧ Wtr 95 wr g (l1 ++ (t.take j).flatMap opEnc) ∧ Ext (just g) w1 wr) (fun s13 _ => t.length - (intOf s13).toNat)
 case atStart => exact ⟨0, rfl, Nat.zero_le _, by simpa using hw1, Ext.refl _ _⟩
 case round =>
  obtain ⟨j, rfl, hj, hwr, hx⟩ := hrel
  have hrr := hw1.keeps hx hrd1 (plain_ops P)
  obtain ⟨M, hM⟩ : ∃ M, M = l1 ++ (t.take j).flatMap opEnc := ⟨_, rfl⟩
  rw [← hM] at hwr
  have hMl : M.length ≤ 3100000 := by
   rw [hM, List.length_append]
   have := flat_le (t.take j) (f := opEnc) (k := 600) (fun x hx => opEnc_le (hok x (List.mem_of_mem_take hx)) (hf x (List.mem_of_mem_take hx)))
   rw [List.length_take] at this
   omega
  have HM := Lib.hid hM
  clear hM
  by_cases hjl : j < t.length
  ·have d1 : decide (j < t.length) = true := decT hjl
   obtain ⟨x, hxm⟩ : ∃ x, P[j]? = some x := ⟨_, List.getElem?_eq_getElem (by have := HPl.out; omega)⟩
   have hxo : t[j]? = some x.o := by rw [← HP.out, List.getElem?_map, hxm]; rfl
   have hgx := hgd1 x (List.mem_of_getElem? hxm)
   have hox := hok x.o (List.mem_of_getElem? hxo)
   have hfx := hf x.o (List.mem_of_getElem? hxo)
   have hdx := hw1.keeps hx hgx.rd (plain_ds _)
   have Hn := Lib.hid (show l1 ++ (t.take (j + 1)).flatMap opEnc = M ++ opEnc x.o by rw [opsTake t j x.o hxo, HM.out, List.append_assoc])
   obtain ⟨b, off, hsb, _⟩ := rows_shape kOp (by omega) hrr (by have := HPl.out; omega)
   rw [hsb] at hrr
   clear HM
   have y0 : wr.cell? ⟨b, off + j * 11, none⟩ = some (.int .i64 x.o.dot.dev) := rows_cell kOp hrr hxm 0 _ rfl
   have y1 : wr.cell? ⟨b, off + j * 11 + 1, none⟩ = some (.int .i64 x.o.dot.ep) := rows_cell kOp hrr hxm 1 _ rfl
   have y2 : wr.cell? ⟨b, off + j * 11 + 2, none⟩ = some (.int .i64 x.o.dot.seq) := rows_cell kOp hrr hxm 2 _ rfl
   have y3 : wr.cell? ⟨b, off + j * 11 + 3, none⟩ = some (.int .i64 x.o.coll) := rows_cell kOp hrr hxm 3 _ rfl
   have y4 : wr.cell? ⟨b, off + j * 11 + 4, none⟩ = some (.int .i64 x.o.ver) := rows_cell kOp hrr hxm 4 _ rfl
   have y5 : wr.cell? ⟨b, off + j * 11 + 5, none⟩ = some (.int .i64 x.o.kind) := rows_cell kOp hrr hxm 5 _ rfl
   have y6 : wr.cell? ⟨b, off + j * 11 + 6, none⟩ = some (.string (str x.o.key)) := rows_cell kOp hrr hxm 6 _ rfl
   have y7 : wr.cell? ⟨b, off + j * 11 + 7, none⟩ = some (.string (str x.o.text)) := rows_cell kOp hrr hxm 7 _ rfl
   have y8 : wr.cell? ⟨b, off + j * 11 + 8, none⟩ = some (.int .i64 x.o.n) := rows_cell kOp hrr hxm 8 _ rfl
   have y9 : wr.cell? ⟨b, off + j * 11 + 9, none⟩ = some (.int .i64 x.o.time) := rows_cell kOp hrr hxm 9 _ rfl
   have y10 : wr.cell? ⟨b, off + j * 11 + 10, none⟩ = some (.slice x.a x.o.dots.length x.c) := rows_cell kOp hrr hxm 10 _ rfl
   rw [hsb]
   go_upto_region 4 with fail
   have hX := Blk.lit wr #[.int .i64 x.o.dot.dev, .int .i64 x.o.dot.ep, .int .i64 x.o.dot.seq, .int .i64 x.o.coll, .int .i64 x.o.ver, .int .i64 x.o.kind, .string (str x.o.key), .string (str x.o.text), .int .i64 x.o.n, .int .i64 x.o.time, .slice x.a x.o.dots.length x.c] 62
   have hxa := Ext.alloc no wr (.cells #[.int .i64 x.o.dot.dev, .int .i64 x.o.dot.ep, .int .i64 x.o.dot.seq, .int .i64 x.o.coll, .int .i64 x.o.ver, .int .i64 x.o.kind, .string (str x.o.key), .string (str x.o.text), .int .i64 x.o.n, .int .i64 x.o.time, .slice x.a x.o.dots.length x.c] 62)
   have hw2 := hwr.on hxa
   have hd2 := hdx.ext hxa (fun _ _ h => h)
   have hxx : Ext (just g) w1 (wr.alloc (.cells #[.int .i64 x.o.dot.dev, .int .i64 x.o.dot.ep, .int .i64 x.o.dot.seq, .int .i64 x.o.coll, .int .i64 x.o.ver, .int .i64 x.o.kind, .string (str x.o.key), .string (str x.o.text), .int .i64 x.o.n, .int .i64 x.o.time, .slice x.a x.o.dots.length x.c] 62)) := hx.comp (hxa.mono (fun _ _ h => absurd h (fun h => h)))
   clear hwr hdx hx hxa y0 y1 y2 y3 y4 y5 y6 y7 y8 y9 y10 hrr hsb
   generalize wr.alloc (.cells #[.int .i64 x.o.dot.dev, .int .i64 x.o.dot.ep, .int .i64 x.o.dot.seq, .int .i64 x.o.coll, .int .i64 x.o.ver, .int .i64 x.o.kind, .string (str x.o.key), .string (str x.o.text), .int .i64 x.o.n, .int .i64 x.o.time, .slice x.a x.o.dots.length x.c] 62) = w2 at *
   obtain ⟨gx, hgx⟩ : ∃ gx, gx = wr.heap.size := ⟨_, rfl⟩
   rw [← hgx] at hX ⊢
   clear hgx hxm hxo
   obtain ⟨a2, c2, k0, f0, hr0⟩ := hw2.open
   have z0 := hX.cell 0 _ rfl
   have z1 := hX.cell 1 _ rfl
   have z2 := hX.cell 2 _ rfl
   have z3 := hX.cell 3 _ rfl
   have z4 := hX.cell 4 _ rfl
   have z5 := hX.cell 5 _ rfl
   have z6 := hX.cell 6 _ rfl
   have z7 := hX.cell 7 _ rfl
   have z8 := hX.cell 8 _ rfl
   have z9 := hX.cell 9 _ rfl
   have z10 := hX.cell 10 _ rfl
   refine wp_region_F [4, 5] (looks [(4, fun z => Ext no w2 z), (5, fun z => Ext no w2 z)]) (by kernel_rfl) ?_
   have hT0 : ∀ k, looks [(4, fun z => Ext no w2 z), (5, fun z => Ext no w2 z)] k (w2.drew) := looks_all ⟨Ext.drew no w2, Ext.drew no w2, trivial⟩
   refine wpF_tk 0 (v := ?_) rfl hT0 (by rfl) ?_ ?_
   rotate_left
   ·(intro wq; go_simp; try with_reducible rfl)
   simp only [pz]
   refine wpF_tk 1 (v := ?_) rfl hT0 (by rfl) ?_ ?_
   rotate_left
   ·(intro wq; go_simp; try with_reducible rfl)
   simp only [pz]
   refine wpF_tk 2 (v := ?_) rfl hT0 (by rfl) ?_ ?_
   rotate_left
   ·(intro wq; go_simp; try with_reducible rfl)
   simp only [pz]
   refine wpF_tk 3 (v := ?_) rfl hT0 (by rfl) ?_ ?_
   rotate_left
   ·(intro wq; go_simp; try with_reducible rfl)
   simp only [pz]
   refine wpF_lk 4 (v := .slice a2 M.length c2) rfl hT0 (by rfl) (fun w hS => by have hS : Ext no w2 w := hS; have q0 := hS.keeps k0 (fun h => h); go_simp) ?_
   simp only [pz]
   refine wpF_lk 5 (v := .agg #[.int .i64 x.o.dot.dev, .int .i64 x.o.dot.ep, .int .i64 x.o.dot.seq, .int .i64 x.o.coll, .int .i64 x.o.ver, .int .i64 x.o.kind, .string (str x.o.key), .string (str x.o.text), .int .i64 x.o.n, .int .i64 x.o.time, .slice x.a x.o.dots.length x.c]) rfl hT0 (by rfl) (fun w hS => by have hS : Ext no w2 w := hS; have q0 := hS.keeps z0 (fun h => h); have q1 := hS.keeps z1 (fun h => h); have q2 := hS.keeps z2 (fun h => h); have q3 := hS.keeps z3 (fun h => h); have q4 := hS.keeps z4 (fun h => h); have q5 := hS.keeps z5 (fun h => h); have q6 := hS.keeps z6 (fun h => h); have q7 := hS.keeps z7 (fun h => h); have q8 := hS.keeps z8 (fun h => h); have q9 := hS.keeps z9 (fun h => h); have q10 := hS.keeps z10 (fun h => h); go_simp) ?_
   simp only [pz]
   refine wpF_exec 6 rfl (by kernel_rfl) (by rfl) ?_
   intro K hK
   go_simp
   refine (opbytes_any w2.drew x.o x.a a2 x.c c2 M hox (hd2.ext (Ext.drew no w2) (fun _ _ h => h)) (by have := hfx.2.2; omega) (by have := hfx.1; omega) (by have := hfx.2.1; omega) (hr0.ext (Ext.drew no w2) (fun _ _ h => h)) (by omega)).mono ?_
   rintro e w4 ⟨a4, c4, rfl, hr4, hx4⟩
   have hx24 := (Ext.drew no w2).comp hx4
   have hp := hw2.put (c' := c4) hx24 hr4 rfl
   obtain ⟨a5, c5, k5, f5, _⟩ := (hw2.on hx24).open
   obtain ⟨M2, hM2⟩ : ∃ M2, M2 = M ++ opEnc x.o := ⟨_, rfl⟩
   rw [← hM2] at hp ⊢
   have HM2 := Lib.hid hM2
   clear hM2 hr4
   have hT1 : ∀ k, looks [(4, fun z => Ext no w2 z), (5, fun z => Ext no w2 z)] k (w4) := looks_all ⟨(Ext.drew no w2).comp hx4, (Ext.drew no w2).comp hx4, trivial⟩
   refine hK _ _ (looks [(4, fun z => Ext no w2 z), (5, fun z => Ext no w2 z)]) ⟨.inr (.inl (by kernel_rfl)), .inr (.inl (by kernel_rfl)), trivial⟩ hT1 ?_
   clear hK K
   try simp only [pz]
   refine wpF_tk 7 (v := ?_) rfl hT1 (by rfl) ?_ ?_
   rotate_left
   ·(intro wq; go_simp; try with_reducible rfl)
   simp only [pz]
   refine wpF_tk 8 (v := ?_) rfl hT1 (by rfl) ?_ ?_
   rotate_left
   ·(intro wq; go_simp; try with_reducible rfl)
   simp only [pz]
   refine wpF_exec 9 rfl (by kernel_rfl) (by rfl) ?_
   intro K hK
   go_simp
   have hT2 : ∀ k, looks [(4, fun z => True), (5, fun z => True)] k ((w4.setCell ⟨g, 0, none⟩ (.slice a4 M2.length c4))) := looks_all ⟨trivial, trivial, trivial⟩
   refine hK _ _ (looks [(4, fun z => True), (5, fun z => True)]) ⟨.inr (.inl (by kernel_rfl)), .inr (.inl (by kernel_rfl)), trivial⟩ hT2 ?_
   clear hK K
   try simp only [pz]
   refine wpF_done (by kernel_rfl) ?_ _
   go_wp2_with fail
   go_roundw
   case rel => exact ⟨j + 1, by go_num, by omega, hp.1.cast (by rw [Hn.out, HM2.out]), hxx.comp hp.2⟩
   case measure => simp [intOf]; omega
  ·have d1 : decide (j < t.length) = false := decF hjl
   have HE := Lib.hid (show l ++ opsEnc t = M by rw [HM.out, List.take_of_length_le (by omega), Hl1.out]; unfold opsEnc; rw [List.append_assoc])
   go_wp2_with fail
   go_end0
   exact ⟨rfl, hwr.cast HE.out.symm, hx01.comp hx⟩
theorem flatTake {α : Type} (f : α → List UInt8) (l : List α) (j : Nat) (x : α) (h : l[j]? = some x) : (l.take (j + 1)).flatMap f = (l.take j).flatMap f ++ f x := by
 rw [List.take_add_one, h]
 simp
set_option maxRecDepth 100000 in
set_option maxHeartbeats 4000000 in
theorem wcmd_any (w : World) (g : Nat) (c : CmdR) (h : CmdA) (l : List UInt8) (hw : Wtr 95 w g l) (hl : l.length ≤ 100) (hin : c.In w h) (hok : c.ok) (hf : c.few2) :
  Calls Tryz.prog 45 #[.pointer (some ⟨g, 0, none⟩), c.val h] w fun e w' => e = .returned (.tuple #[]) ∧ Wtr 95 w' g (l ++ cmdEnc c) ∧ Ext (just g) w w' := by
 have hwl := hf.wl
 have hlt := hw.lt
 go_enter Tryz.func45, Tryz.ntmps45
 unfold CmdR.val
 go_upto_region 1 with fail
 have hC := Blk.lit w #[.int .i64 c.kind, .int .i64 c.dev, .int .i64 c.ep, .int .i64 c.req, .int .i64 c.n, .slice h.w c.wants.length h.wc, .slice h.o c.ops.length h.oc] 27
 have hxa := Ext.alloc no w (.cells #[.int .i64 c.kind, .int .i64 c.dev, .int .i64 c.ep, .int .i64 c.req, .int .i64 c.n, .slice h.w c.wants.length h.wc, .slice h.o c.ops.length h.oc] 27)
 have hw1 := hw.on hxa
 have hi1 := hin.no hxa
 have hx1 : Ext (just g) w (w.alloc (.cells #[.int .i64 c.kind, .int .i64 c.dev, .int .i64 c.ep, .int .i64 c.req, .int .i64 c.n, .slice h.w c.wants.length h.wc, .slice h.o c.ops.length h.oc] 27)) := hxa.mono (fun _ _ h => absurd h (fun h => h))
 clear hw hin hxa
 generalize w.alloc (.cells #[.int .i64 c.kind, .int .i64 c.dev, .int .i64 c.ep, .int .i64 c.req, .int .i64 c.n, .slice h.w c.wants.length h.wc, .slice h.o c.ops.length h.oc] 27) = w1 at *
 obtain ⟨gc, hgc⟩ : ∃ gc, gc = w.heap.size := ⟨_, rfl⟩
 rw [← hgc] at hC ⊢
 have hgne : gc ≠ g := by omega
 clear hgc
 have z0 := hC.cell 0 _ rfl
 have z1 := hC.cell 1 _ rfl
 have z2 := hC.cell 2 _ rfl
 have z3 := hC.cell 3 _ rfl
 have z4 := hC.cell 4 _ rfl
 have z5 := hC.cell 5 _ rfl
 have z6 := hC.cell 6 _ rfl
 go_wp2_with fail
 have hxq := Ext.alloc no w1 (.cells #[.int .i64 c.kind, .int .i64 c.dev, .int .i64 c.ep, .int .i64 c.req, .int .i64 c.n, .int .i64 c.wants.length] 3)
 refine (wints_any (w1.alloc (.cells #[.int .i64 c.kind, .int .i64 c.dev, .int .i64 c.ep, .int .i64 c.req, .int .i64 c.n, .int .i64 c.wants.length] 3)) g (some ⟨w1.heap.size, 0, none⟩) 6 l [(c.kind : Int), (c.dev : Int), (c.ep : Int), (c.req : Int), (c.n : Int), (c.wants.length : Int)] (hw1.on hxq) (by omega) (Rd.lit w1 #[.int .i64 c.kind, .int .i64 c.dev, .int .i64 c.ep, .int .i64 c.req, .int .i64 c.n, .int .i64 c.wants.length] 3 (0, 0)) (by simp) (by simp [hok.kind, hok.dev, hok.ep, hok.req, hok.n, len_ok (show c.wants.length ≤ 1000 by omega)])).mono ?_
 rintro e w2 ⟨rfl, hw2, hx2⟩
 have hxj := (hxq.mono (S' := just g) (fun _ _ h => absurd h (fun h => h))).comp hx2
 have hC2 := Wtr.blk hxj hC (by simp) (hgne)
 have hi2 := hw1.cmd hxj hi1
 have hx02 := hx1.comp hxj
 clear hxq hx2 hxj hw1 hC hi1 hx1
 clear z0 z1 z2 z3 z4 z5 z6
 obtain ⟨l1, hl1⟩ : ∃ l1, l1 = l ++ encs [c.kind, c.dev, c.ep, c.req, c.n, (c.wants.length : Int)] := ⟨_, rfl⟩
 rw [← hl1] at hw2
 have hl1l : l1.length ≤ 200 := by
  rw [hl1, List.length_append]
  have := encs_le (l := [c.kind, c.dev, c.ep, c.req, c.n, (c.wants.length : Int)]) (by simp [hok.kind, hok.dev, hok.ep, hok.req, hok.n, len_ok (show c.wants.length ≤ 1000 by omega)])
  simp only [List.length_cons, List.length_nil] at this
  omega
 have Hl1 := Lib.hid hl1
 clear hl1
 have hrw := hi2.x
 have z5 := hC2.cell 5 _ rfl
 go_wp2_with fail
 clear z5
 go_loopw [25] (fun s wr => ∃ j : Nat, s = .int .i64 j ∧ j ≤ c.wants.length ∧ Wtr 95 wr g (l1 ++ (c.wants.take j).flatMap wantEnc) ∧ Ext (just g) w2 wr) (fun s _ => c.wants.length - (intOf s).toNat)
 case atStart => exact ⟨0, rfl, Nat.zero_le _, by simpa using hw2, Ext.refl _ _⟩
 case round =>
  obtain ⟨j, rfl, hj, hwr, hx⟩ := hrel
  have hrr := hw2.keeps hx hrw (plain_wants _)
  obtain ⟨M, hM⟩ : ∃ M, M = l1 ++ (c.wants.take j).flatMap wantEnc := ⟨_, rfl⟩
  rw [← hM] at hwr
  have hMl : M.length ≤ 2700000 := by
   rw [hM, List.length_append]
   have := flat_le (c.wants.take j) (f := wantEnc) (k := 65580) (fun x hx => wantEnc_le2 (hok.wants x (List.mem_of_mem_take hx)) (hf.wk x (List.mem_of_mem_take hx)))
   rw [List.length_take] at this
   omega
  have HM := Lib.hid hM
  clear hM
  by_cases hjl : j < c.wants.length
  ·have d1 : decide (j < c.wants.length) = true := decT hjl
   obtain ⟨x, hxm⟩ : ∃ x, c.wants[j]? = some x := ⟨_, List.getElem?_eq_getElem hjl⟩
   have hox := hok.wants x (List.mem_of_getElem? hxm)
   have hkx := hf.wk x (List.mem_of_getElem? hxm)
   have Hn := Lib.hid (show l1 ++ (c.wants.take (j + 1)).flatMap wantEnc = M ++ wantEnc x by rw [flatTake wantEnc c.wants j x hxm, HM.out, List.append_assoc])
   obtain ⟨b, off, hsb, _⟩ := rows_shape kWant (by omega) hrr (by omega)
   rw [hsb] at hrr
   clear HM
   have y0 : wr.cell? ⟨b, off + j * 4, none⟩ = some (.string (str x.key)) := rows_cell kWant hrr hxm 0 _ rfl
   have y1 : wr.cell? ⟨b, off + j * 4 + 1, none⟩ = some (.int .i64 x.up) := rows_cell kWant hrr hxm 1 _ rfl
   have y2 : wr.cell? ⟨b, off + j * 4 + 2, none⟩ = some (.int .i64 x.down) := rows_cell kWant hrr hxm 2 _ rfl
   have y3 : wr.cell? ⟨b, off + j * 4 + 3, none⟩ = some (.int .i64 x.ids) := rows_cell kWant hrr hxm 3 _ rfl
   rw [hsb]
   go_upto_region 5 with fail
   have hX := Blk.lit wr #[.string (str x.key), .int .i64 x.up, .int .i64 x.down, .int .i64 x.ids] 105
   have hxa := Ext.alloc no wr (.cells #[.string (str x.key), .int .i64 x.up, .int .i64 x.down, .int .i64 x.ids] 105)
   have hw2 := hwr.on hxa
   have hxx : Ext (just g) w2 (wr.alloc (.cells #[.string (str x.key), .int .i64 x.up, .int .i64 x.down, .int .i64 x.ids] 105)) := hx.comp (hxa.mono (fun _ _ h => absurd h (fun h => h)))
   have hgwr := hwr.lt
   clear hwr hx hxa y0 y1 y2 y3 hrr hsb
   generalize wr.alloc (.cells #[.string (str x.key), .int .i64 x.up, .int .i64 x.down, .int .i64 x.ids] 105) = w2 at *
   obtain ⟨gx, hgx⟩ : ∃ gx, gx = wr.heap.size := ⟨_, rfl⟩
   rw [← hgx] at hX ⊢
   have hgne : gx ≠ g := by omega
   clear hgx hxm hgwr
   have z0 := hX.cell 0 _ rfl
   go_wp2_with fail
   refine (wtext_any w2 g M x.key hw2 (by omega) (by omega)).mono ?_
   rintro e w3 ⟨rfl, hw3, hxj⟩
   have hX3 := Wtr.blk hxj hX (by simp) (hgne)
   have hxx3 := hxx.comp hxj
   clear hxj hw2 hX hxx
   clear z0
   have hTl := encT_le2 hkx
   have hM3 : (M ++ encT x.key).length ≤ 2700000 + 65700 := by rw [List.length_append]; omega
   obtain ⟨M3, hM3e⟩ : ∃ M3, M3 = M ++ encT x.key := ⟨_, rfl⟩
   rw [← hM3e] at hw3 hM3
   have HM3 := Lib.hid hM3e
   clear hM3e
   have z1 := hX3.cell 1 _ rfl
   have z2 := hX3.cell 2 _ rfl
   have z3 := hX3.cell 3 _ rfl
   go_wp2_with fail
   have hxq := Ext.alloc no w3 (.cells #[.int .i64 x.up, .int .i64 x.down, .int .i64 x.ids] 3)
   refine (wints_any (w3.alloc (.cells #[.int .i64 x.up, .int .i64 x.down, .int .i64 x.ids] 3)) g (some ⟨w3.heap.size, 0, none⟩) 3 M3 [(x.up : Int), (x.down : Int), (x.ids : Int)] (hw3.on hxq) (by omega) (Rd.lit w3 #[.int .i64 x.up, .int .i64 x.down, .int .i64 x.ids] 3 (0, 0)) (by simp) (by simp [hox.up, hox.down, hox.ids])).mono ?_
   rintro e w4 ⟨rfl, hw4, hx4⟩
   have hxj := (hxq.mono (S' := just g) (fun _ _ h => absurd h (fun h => h))).comp hx4
   have hxx4 := hxx3.comp hxj
   clear hxq hx4 hxj hw3 hxx3
   go_wp2_with fail
   go_roundw
   case rel => exact ⟨j + 1, by go_num, by omega, hw4.cast (by rw [Hn.out, HM3.out]; unfold wantEnc; rw [List.append_assoc]), hxx4⟩
   case measure => simp [intOf]; omega
  ·have d1 : decide (j < c.wants.length) = false := decF hjl
   have HE := Lib.hid (show M = l1 ++ c.wants.flatMap wantEnc by rw [HM.out, List.take_of_length_le (by omega)])
   clear HM
   have hi3 := hw2.cmd hx hi2
   have hC3 := Wtr.blk hx hC2 (by simp) hgne
   have z6 := hC3.cell 6 _ rfl
   go_wp2_with fail
   refine (wops_any wr g h.o h.oc M c.ops hwr (by omega) hi3.o hf.ol hok.ops hf.of).mono ?_
   rintro e w5 ⟨rfl, hw5, hx5⟩
   go_wp2_with fail
   go_end0
   exact ⟨rfl, hw5.cast (by rw [HE.out, Hl1.out]; unfold cmdEnc; simp only [List.append_assoc]), (hx02.comp hx).comp hx5⟩
set_option maxRecDepth 100000 in
set_option maxHeartbeats 4000000 in
theorem wreply_any (w : World) (g : Nat) (r : ReplyR) (h : ReplyA) (l : List UInt8) (hw : Wtr 95 w g l) (hl : l.length ≤ 100) (hin : r.In w h) (hok : r.ok) (hf : r.few2) :
  Calls Tryz.prog 46 #[.pointer (some ⟨g, 0, none⟩), r.val h] w fun e w' => e = .returned (.tuple #[]) ∧ Wtr 95 w' g (l ++ replyEnc r) ∧ Ext (just g) w w' := by
 have hwl := hf.sl
 have hil := hf.il
 have hul := hf.ul
 have hlt := hw.lt
 go_enter Tryz.func46, Tryz.ntmps46
 unfold ReplyR.val
 go_upto_region 1 with fail
 have hC := Blk.lit w #[.int .i64 r.err, .int .i64 r.n, .int .i64 r.dev, .int .i64 r.ep, .int .i64 r.til, .int .i64 r.last, .slice h.s r.slices.length h.sc, .slice h.i r.ids.length h.ic, .slice h.u r.used.length h.uc] 34
 have hxa := Ext.alloc no w (.cells #[.int .i64 r.err, .int .i64 r.n, .int .i64 r.dev, .int .i64 r.ep, .int .i64 r.til, .int .i64 r.last, .slice h.s r.slices.length h.sc, .slice h.i r.ids.length h.ic, .slice h.u r.used.length h.uc] 34)
 have hw1 := hw.on hxa
 have hi1 := hin.no hxa
 have hx1 : Ext (just g) w (w.alloc (.cells #[.int .i64 r.err, .int .i64 r.n, .int .i64 r.dev, .int .i64 r.ep, .int .i64 r.til, .int .i64 r.last, .slice h.s r.slices.length h.sc, .slice h.i r.ids.length h.ic, .slice h.u r.used.length h.uc] 34)) := hxa.mono (fun _ _ h => absurd h (fun h => h))
 clear hw hin
 have hz1 : w.heap.size ≤ (w.alloc (.cells #[.int .i64 r.err, .int .i64 r.n, .int .i64 r.dev, .int .i64 r.ep, .int .i64 r.til, .int .i64 r.last, .slice h.s r.slices.length h.sc, .slice h.i r.ids.length h.ic, .slice h.u r.used.length h.uc] 34)).heap.size := by simp
 generalize w.alloc (.cells #[.int .i64 r.err, .int .i64 r.n, .int .i64 r.dev, .int .i64 r.ep, .int .i64 r.til, .int .i64 r.last, .slice h.s r.slices.length h.sc, .slice h.i r.ids.length h.ic, .slice h.u r.used.length h.uc] 34) = w1 at *
 obtain ⟨gc, hgc⟩ : ∃ gc, gc = w.heap.size := ⟨_, rfl⟩
 rw [← hgc] at hC ⊢
 have hgne : gc ≠ g := by omega
 have hg1 : g < w1.heap.size := by omega
 clear hgc hz1
 have z0 := hC.cell 0 _ rfl
 have z1 := hC.cell 1 _ rfl
 have z2 := hC.cell 2 _ rfl
 have z3 := hC.cell 3 _ rfl
 have z4 := hC.cell 4 _ rfl
 have z5 := hC.cell 5 _ rfl
 have z6 := hC.cell 6 _ rfl
 have z7 := hC.cell 7 _ rfl
 have z8 := hC.cell 8 _ rfl
 go_upto_region 2 with fail
 have hD := Blk.lit w1 #[.int .i64 r.dev, .int .i64 r.ep, .int .i64 r.til, .int .i64 r.last, .slice h.s r.slices.length h.sc, .slice h.i r.ids.length h.ic, .slice h.u r.used.length h.uc] 32
 have hxb := Ext.alloc no w1 (.cells #[.int .i64 r.dev, .int .i64 r.ep, .int .i64 r.til, .int .i64 r.last, .slice h.s r.slices.length h.sc, .slice h.i r.ids.length h.ic, .slice h.u r.used.length h.uc] 32)
 have hC1 := hC.ext (by simp) hxb (fun h => h)
 have hw1b := hw1.on hxb
 have hi1b := hi1.no hxb
 have hx1b : Ext (just g) w (w1.alloc (.cells #[.int .i64 r.dev, .int .i64 r.ep, .int .i64 r.til, .int .i64 r.last, .slice h.s r.slices.length h.sc, .slice h.i r.ids.length h.ic, .slice h.u r.used.length h.uc] 32)) := hx1.comp (hxb.mono (fun _ _ h => absurd h (fun h => h)))
 clear hC hw1 hi1 hx1 hxa hxb z0 z1 z2 z3 z4 z5 z6 z7 z8
 obtain ⟨gd, hgd⟩ : ∃ gd, gd = w1.heap.size := ⟨_, rfl⟩
 rw [← hgd] at hD ⊢
 have hdne : gd ≠ g := by omega
 generalize w1.alloc (.cells #[.int .i64 r.dev, .int .i64 r.ep, .int .i64 r.til, .int .i64 r.last, .slice h.s r.slices.length h.sc, .slice h.i r.ids.length h.ic, .slice h.u r.used.length h.uc] 32) = wb at *
 clear hgd
 have z0 := hC1.cell 0 _ rfl
 have z1 := hC1.cell 1 _ rfl
 have y0 := hD.cell 0 _ rfl
 have y1 := hD.cell 1 _ rfl
 have y2 := hD.cell 2 _ rfl
 have y3 := hD.cell 3 _ rfl
 have y4 := hD.cell 4 _ rfl
 have y5 := hD.cell 5 _ rfl
 have y6 := hD.cell 6 _ rfl
 go_wp2_with fail
 have hxq := Ext.alloc no wb (.cells #[.int .i64 r.err, .int .i64 r.n, .int .i64 r.dev, .int .i64 r.ep, .int .i64 r.til, .int .i64 r.last, .int .i64 r.slices.length] 3)
 refine (wints_any (wb.alloc (.cells #[.int .i64 r.err, .int .i64 r.n, .int .i64 r.dev, .int .i64 r.ep, .int .i64 r.til, .int .i64 r.last, .int .i64 r.slices.length] 3)) g (some ⟨wb.heap.size, 0, none⟩) 7 l [(r.err : Int), (r.n : Int), (r.dev : Int), (r.ep : Int), (r.til : Int), (r.last : Int), (r.slices.length : Int)] (hw1b.on hxq) (by omega) (Rd.lit wb #[.int .i64 r.err, .int .i64 r.n, .int .i64 r.dev, .int .i64 r.ep, .int .i64 r.til, .int .i64 r.last, .int .i64 r.slices.length] 3 (0, 0)) (by simp) (by simp [hok.err, hok.n, hok.dev, hok.ep, hok.til, hok.last, len_ok (show r.slices.length ≤ 1000 by omega)])).mono ?_
 rintro e w2 ⟨rfl, hw2, hx2⟩
 have hxj := (hxq.mono (S' := just g) (fun _ _ h => absurd h (fun h => h))).comp hx2
 have hD2 := Wtr.blk hxj hD (by simp) (hdne)
 have hi2 := hw1b.reply hxj hi1b
 have hx02 := hx1b.comp hxj
 clear hxq hx2 hxj hw1b hD hi1b hx1b
 clear z0 z1 hC1 y0 y1 y2 y3 y4 y5 y6
 obtain ⟨l1, hl1⟩ : ∃ l1, l1 = l ++ encs [r.err, r.n, r.dev, r.ep, r.til, r.last, (r.slices.length : Int)] := ⟨_, rfl⟩
 rw [← hl1] at hw2
 have hl1l : l1.length ≤ 200 := by
  rw [hl1, List.length_append]
  have := encs_le (l := [r.err, r.n, r.dev, r.ep, r.til, r.last, (r.slices.length : Int)]) (by simp [hok.err, hok.n, hok.dev, hok.ep, hok.til, hok.last, len_ok (show r.slices.length ≤ 1000 by omega)])
  simp only [List.length_cons, List.length_nil] at this
  omega
 have Hl1 := Lib.hid hl1
 clear hl1
 have hrs := hi2.s
 have y4 := hD2.cell 4 _ rfl
 go_wp2_with fail
 clear y4
 go_loopw [32] (fun s wr => ∃ j : Nat, s = .int .i64 j ∧ j ≤ r.slices.length ∧ Wtr 95 wr g (l1 ++ (r.slices.take j).flatMap sliceEnc) ∧ Ext (just g) w2 wr) (fun s _ => r.slices.length - (intOf s).toNat)
 case atStart => exact ⟨0, rfl, Nat.zero_le _, by simpa using hw2, Ext.refl _ _⟩
 case round =>
  obtain ⟨j, rfl, hj, hwr, hx⟩ := hrel
  have hrr := hw2.keeps hx hrs (plain_slices _)
  obtain ⟨M, hM⟩ : ∃ M, M = l1 ++ (r.slices.take j).flatMap sliceEnc := ⟨_, rfl⟩
  rw [← hM] at hwr
  have hMl : M.length ≤ 2700000 := by
   rw [hM, List.length_append]
   have := flat_le (r.slices.take j) (f := sliceEnc) (k := 65590) (fun x hx => sliceEnc_le2 (hok.slices x (List.mem_of_mem_take hx)) (hf.sk x (List.mem_of_mem_take hx)))
   rw [List.length_take] at this
   omega
  have HM := Lib.hid hM
  clear hM
  by_cases hjl : j < r.slices.length
  ·have d1 : decide (j < r.slices.length) = true := decT hjl
   obtain ⟨x, hxm⟩ : ∃ x, r.slices[j]? = some x := ⟨_, List.getElem?_eq_getElem hjl⟩
   have hox := hok.slices x (List.mem_of_getElem? hxm)
   have hkx := hf.sk x (List.mem_of_getElem? hxm)
   have Hn := Lib.hid (show l1 ++ (r.slices.take (j + 1)).flatMap sliceEnc = M ++ sliceEnc x by rw [flatTake sliceEnc r.slices j x hxm, HM.out, List.append_assoc])
   obtain ⟨b, off, hsb, _⟩ := rows_shape kSlice (by omega) hrr (by omega)
   rw [hsb] at hrr
   clear HM
   have y0 : wr.cell? ⟨b, off + j * 5, none⟩ = some (.string (str x.key)) := rows_cell kSlice hrr hxm 0 _ rfl
   have y1 : wr.cell? ⟨b, off + j * 5 + 1, none⟩ = some (.int .i64 x.up) := rows_cell kSlice hrr hxm 1 _ rfl
   have y2 : wr.cell? ⟨b, off + j * 5 + 2, none⟩ = some (.int .i64 x.down) := rows_cell kSlice hrr hxm 2 _ rfl
   have y3 : wr.cell? ⟨b, off + j * 5 + 3, none⟩ = some (.int .i64 x.uu) := rows_cell kSlice hrr hxm 3 _ rfl
   have y4 : wr.cell? ⟨b, off + j * 5 + 4, none⟩ = some (.int .i64 x.ud) := rows_cell kSlice hrr hxm 4 _ rfl
   rw [hsb]
   go_upto_region 6 with fail
   have hX := Blk.lit wr #[.string (str x.key), .int .i64 x.up, .int .i64 x.down, .int .i64 x.uu, .int .i64 x.ud] 64
   have hxa := Ext.alloc no wr (.cells #[.string (str x.key), .int .i64 x.up, .int .i64 x.down, .int .i64 x.uu, .int .i64 x.ud] 64)
   have hw2 := hwr.on hxa
   have hxx : Ext (just g) w2 (wr.alloc (.cells #[.string (str x.key), .int .i64 x.up, .int .i64 x.down, .int .i64 x.uu, .int .i64 x.ud] 64)) := hx.comp (hxa.mono (fun _ _ h => absurd h (fun h => h)))
   have hgwr := hwr.lt
   clear hwr hx hxa y0 y1 y2 y3 y4 hrr hsb
   generalize wr.alloc (.cells #[.string (str x.key), .int .i64 x.up, .int .i64 x.down, .int .i64 x.uu, .int .i64 x.ud] 64) = w2 at *
   obtain ⟨gx, hgx⟩ : ∃ gx, gx = wr.heap.size := ⟨_, rfl⟩
   rw [← hgx] at hX ⊢
   have hgne : gx ≠ g := by omega
   clear hgx hxm hgwr
   have z0 := hX.cell 0 _ rfl
   go_wp2_with fail
   refine (wtext_any w2 g M x.key hw2 (by omega) (by omega)).mono ?_
   rintro e w3 ⟨rfl, hw3, hxj⟩
   have hX3 := Wtr.blk hxj hX (by simp) (hgne)
   have hxx3 := hxx.comp hxj
   clear hxj hw2 hX hxx
   clear z0
   have hTl := encT_le2 hkx
   have hM3 : (M ++ encT x.key).length ≤ 2700000 + 65700 := by rw [List.length_append]; omega
   obtain ⟨M3, hM3e⟩ : ∃ M3, M3 = M ++ encT x.key := ⟨_, rfl⟩
   rw [← hM3e] at hw3 hM3
   have HM3 := Lib.hid hM3e
   clear hM3e
   have z1 := hX3.cell 1 _ rfl
   have z2 := hX3.cell 2 _ rfl
   have z3 := hX3.cell 3 _ rfl
   have z4 := hX3.cell 4 _ rfl
   go_wp2_with fail
   have hxq := Ext.alloc no w3 (.cells #[.int .i64 x.up, .int .i64 x.down, .int .i64 x.uu, .int .i64 x.ud] 3)
   refine (wints_any (w3.alloc (.cells #[.int .i64 x.up, .int .i64 x.down, .int .i64 x.uu, .int .i64 x.ud] 3)) g (some ⟨w3.heap.size, 0, none⟩) 4 M3 [(x.up : Int), (x.down : Int), (x.uu : Int), (x.ud : Int)] (hw3.on hxq) (by omega) (Rd.lit w3 #[.int .i64 x.up, .int .i64 x.down, .int .i64 x.uu, .int .i64 x.ud] 3 (0, 0)) (by simp) (by simp [hox.up, hox.down, hox.uu, hox.ud])).mono ?_
   rintro e w4 ⟨rfl, hw4, hx4⟩
   have hxj := (hxq.mono (S' := just g) (fun _ _ h => absurd h (fun h => h))).comp hx4
   have hxx4 := hxx3.comp hxj
   clear hxq hx4 hxj hw3 hxx3
   go_wp2_with fail
   go_roundw
   case rel => exact ⟨j + 1, by go_num, by omega, hw4.cast (by rw [Hn.out, HM3.out]; unfold sliceEnc; rw [List.append_assoc]), hxx4⟩
   case measure => simp [intOf]; omega
  ·have d1 : decide (j < r.slices.length) = false := decF hjl
   have HE := Lib.hid (show M = l1 ++ r.slices.flatMap sliceEnc by rw [HM.out, List.take_of_length_le (by omega)])
   clear HM
   have HE := HE
   have hi3 := hw2.reply hx hi2
   have hD3 := Wtr.blk hx hD2 (by simp) hdne
   have hx03 := hx02.comp hx
   have y5 := hD3.cell 5 _ rfl
   go_wp2_with fail
   have hxq := Ext.alloc no wr (.cells #[.int .i64 r.ids.length] 3)
   refine (wints_any (wr.alloc (.cells #[.int .i64 r.ids.length] 3)) g (some ⟨wr.heap.size, 0, none⟩) 1 M [(r.ids.length : Int)] (hwr.on hxq) (by omega) (Rd.lit wr #[.int .i64 r.ids.length] 3 (0, 0)) (by simp) (by simp [len_ok (show r.ids.length ≤ 1000 by omega)])).mono ?_
   rintro e w4 ⟨rfl, hw4, hx4⟩
   have hxj := (hxq.mono (S' := just g) (fun _ _ h => absurd h (fun h => h))).comp hx4
   have hD4 := Wtr.blk hxj hD3 (by simp) (hdne)
   have hi4 := hwr.reply hxj hi3
   have hx04 := hx03.comp hxj
   clear hxq hx4 hxj hwr hD3 hi3 hx03
   clear y5 hx
   obtain ⟨l5, hl5⟩ : ∃ l5, l5 = M ++ encs [(r.ids.length : Int)] := ⟨_, rfl⟩
   rw [← hl5] at hw4
   have hl5l : l5.length ≤ 2700100 := by
    rw [hl5, List.length_append]
    have := encs_le (l := [(r.ids.length : Int)]) (by simp [len_ok (show r.ids.length ≤ 1000 by omega)])
    simp only [List.length_cons, List.length_nil] at this
    omega
   have Hl5 := Lib.hid hl5
   clear hl5
   have hw4b := hw4
   clear hw4 hj hjl d1
   have hri := hi4.i
   have y5 := hD4.cell 5 _ rfl
   go_wp2_with fail
   clear y5
   go_loopw [61] (fun s wr => ∃ j : Nat, s = .int .i64 j ∧ j ≤ r.ids.length ∧ Wtr 95 wr g (l5 ++ (r.ids.take j).flatMap rangeEnc) ∧ Ext (just g) w4 wr) (fun s _ => r.ids.length - (intOf s).toNat)
   case atStart => exact ⟨0, rfl, Nat.zero_le _, by simpa using hw4b, Ext.refl _ _⟩
   case round =>
    obtain ⟨j, rfl, hj, hwr, hx⟩ := hrel
    have hrr := hw4b.keeps hx hri (plain_ranges _)
    obtain ⟨M, hM⟩ : ∃ M, M = l5 ++ (r.ids.take j).flatMap rangeEnc := ⟨_, rfl⟩
    rw [← hM] at hwr
    have hMl : M.length ≤ 2800000 := by
     rw [hM, List.length_append]
     have := flat_le (r.ids.take j) (f := rangeEnc) (k := 20) (fun x hx => rangeEnc_le (hok.ids x (List.mem_of_mem_take hx)))
     rw [List.length_take] at this
     omega
    have HM := Lib.hid hM
    clear hM
    by_cases hjl : j < r.ids.length
    ·have d1 : decide (j < r.ids.length) = true := decT hjl
     obtain ⟨x, hxm⟩ : ∃ x, r.ids[j]? = some x := ⟨_, List.getElem?_eq_getElem hjl⟩
     have hox := hok.ids x (List.mem_of_getElem? hxm)
     have Hn := Lib.hid (show l5 ++ (r.ids.take (j + 1)).flatMap rangeEnc = M ++ rangeEnc x by rw [flatTake rangeEnc r.ids j x hxm, HM.out, List.append_assoc])
     obtain ⟨b, off, hsb, _⟩ := rows_shape kRange (by omega) hrr (by omega)
     rw [hsb] at hrr
     clear HM
     have y0 : wr.cell? ⟨b, off + j * 2, none⟩ = some (.int .i64 x.lo) := rows_cell kRange hrr hxm 0 _ rfl
     have y1 : wr.cell? ⟨b, off + j * 2 + 1, none⟩ = some (.int .i64 x.hi) := rows_cell kRange hrr hxm 1 _ rfl
     rw [hsb]
     go_upto_region 13 with fail
     have hX := Blk.lit wr #[.int .i64 x.lo, .int .i64 x.hi] 108
     have hxa := Ext.alloc no wr (.cells #[.int .i64 x.lo, .int .i64 x.hi] 108)
     have hw2 := hwr.on hxa
     have hxx : Ext (just g) w4 (wr.alloc (.cells #[.int .i64 x.lo, .int .i64 x.hi] 108)) := hx.comp (hxa.mono (fun _ _ h => absurd h (fun h => h)))
     have hgwr := hwr.lt
     clear hwr hx hxa y0 y1 hrr hsb
     generalize wr.alloc (.cells #[.int .i64 x.lo, .int .i64 x.hi] 108) = w2 at *
     obtain ⟨gx, hgx⟩ : ∃ gx, gx = wr.heap.size := ⟨_, rfl⟩
     rw [← hgx] at hX ⊢
     have hgne : gx ≠ g := by omega
     clear hgx hxm hgwr
     have z0 := hX.cell 0 _ rfl
     have z1 := hX.cell 1 _ rfl
     go_wp2_with fail
     have hxq := Ext.alloc no w2 (.cells #[.int .i64 x.lo, .int .i64 x.hi] 3)
     refine (wints_any (w2.alloc (.cells #[.int .i64 x.lo, .int .i64 x.hi] 3)) g (some ⟨w2.heap.size, 0, none⟩) 2 M [(x.lo : Int), (x.hi : Int)] (hw2.on hxq) (by omega) (Rd.lit w2 #[.int .i64 x.lo, .int .i64 x.hi] 3 (0, 0)) (by simp) (by simp [hox.lo, hox.hi])).mono ?_
     rintro e w4 ⟨rfl, hw4, hx4⟩
     have hxj := (hxq.mono (S' := just g) (fun _ _ h => absurd h (fun h => h))).comp hx4
     have hxx4 := hxx.comp hxj
     clear hxq hx4 hxj hw2 hxx
     go_wp2_with fail
     go_roundw
     case rel => exact ⟨j + 1, by go_num, by omega, hw4.cast (by rw [Hn.out]; rfl), hxx4⟩
     case measure => simp [intOf]; omega
    ·have d1 : decide (j < r.ids.length) = false := decF hjl
     have HE := Lib.hid (show M = l5 ++ r.ids.flatMap rangeEnc by rw [HM.out, List.take_of_length_le (by omega)])
     clear HM
     obtain ⟨M2, hM2⟩ : ∃ M2, M2 = M := ⟨_, rfl⟩
     rw [← hM2] at hwr hMl HE
     clear hM2
     have HE2 := HE
     clear HE
     have hi7 := hw4b.reply hx hi4
     have hD7 := Wtr.blk hx hD4 (by simp) hdne
     have hx5 := hx04.comp hx
     have hw7 := hwr
     clear hwr
     have y6 := hD7.cell 6 _ rfl
     go_upto_region 15 with fail
     obtain ⟨w7, hw7e⟩ : ∃ w7, w7 = wr := ⟨_, rfl⟩
     rw [← hw7e] at hw7 hi7 hD7 y6 hx5 ⊢
     clear hw7e hx
     obtain ⟨aw, cw, k0, f0, hr0⟩ := hw7.open
     refine wp_region_F [4, 6] (looks [(4, fun z => Ext no w7 z), (6, fun z => Ext no w7 z)]) (by kernel_rfl) ?_
     have hT0 : ∀ k, looks [(4, fun z => Ext no w7 z), (6, fun z => Ext no w7 z)] k (w7.drew) := looks_all ⟨Ext.drew no w7, Ext.drew no w7, trivial⟩
     refine wpF_tk 0 (v := ?_) rfl hT0 (by rfl) ?_ ?_
     rotate_left
     ·(intro wq; go_simp; try with_reducible rfl)
     simp only [pz]
     refine wpF_tk 1 (v := ?_) rfl hT0 (by rfl) ?_ ?_
     rotate_left
     ·(intro wq; go_simp; try with_reducible rfl)
     simp only [pz]
     refine wpF_tk 2 (v := ?_) rfl hT0 (by rfl) ?_ ?_
     rotate_left
     ·(intro wq; go_simp; try with_reducible rfl)
     simp only [pz]
     refine wpF_tk 3 (v := ?_) rfl hT0 (by rfl) ?_ ?_
     rotate_left
     ·(intro wq; go_simp; try with_reducible rfl)
     simp only [pz]
     refine wpF_lk 4 (v := .slice aw M2.length cw) rfl hT0 (by rfl) (fun w hS => by have hS : Ext no w7 w := hS; have q0 := hS.keeps k0 (fun h => h); go_simp) ?_
     simp only [pz]
     refine wpF_tk 5 (v := ?_) rfl hT0 (by rfl) ?_ ?_
     rotate_left
     ·(intro wq; go_simp; try with_reducible rfl)
     simp only [pz]
     refine wpF_lk 6 (v := .slice h.u r.used.length h.uc) rfl hT0 (by rfl) (fun w hS => by have hS : Ext no w7 w := hS; have q0 := hS.keeps y6 (fun h => h); go_simp) ?_
     simp only [pz]
     refine wpF_exec 7 rfl (by kernel_rfl) (by rfl) ?_
     intro K hK
     go_simp
     refine (ints_any w7.drew aw h.u cw h.uc M2 r.used (hr0.ext (Ext.drew no w7) (fun _ _ h => h)) (by omega) (hi7.u.ext (Ext.drew no w7) (fun _ _ h => h)) (by omega) hok.used).mono ?_
     rintro e w8 ⟨a8, c8, rfl, ho8, hx8⟩
     have hx78 := (Ext.drew no w7).comp hx8
     have hp := hw7.put (c' := c8) hx78 ho8.rd rfl
     obtain ⟨a9, c9, k9, f9, _⟩ := (hw7.on hx78).open
     obtain ⟨M8, hM8⟩ : ∃ M8, M8 = M2 ++ encL r.used := ⟨_, rfl⟩
     rw [← hM8] at hp ⊢
     have HM8 := Lib.hid hM8
     clear hM8 ho8
     have hT1 : ∀ k, looks [(4, fun z => Ext no w7 z), (6, fun z => Ext no w7 z)] k (w8) := looks_all ⟨(Ext.drew no w7).comp hx8, (Ext.drew no w7).comp hx8, trivial⟩
     refine hK _ _ (looks [(4, fun z => Ext no w7 z), (6, fun z => Ext no w7 z)]) ⟨.inr (.inl (by kernel_rfl)), .inr (.inl (by kernel_rfl)), trivial⟩ hT1 ?_
     clear hK K
     try simp only [pz]
     refine wpF_tk 8 (v := ?_) rfl hT1 (by rfl) ?_ ?_
     rotate_left
     ·(intro wq; go_simp; try with_reducible rfl)
     simp only [pz]
     refine wpF_tk 9 (v := ?_) rfl hT1 (by rfl) ?_ ?_
     rotate_left
     ·(intro wq; go_simp; try with_reducible rfl)
     simp only [pz]
     refine wpF_exec 10 rfl (by kernel_rfl) (by rfl) ?_
     intro K hK
     go_simp
     have hT2 : ∀ k, looks [(4, fun z => True), (6, fun z => True)] k ((w8.setCell ⟨g, 0, none⟩ (.slice a8 M8.length c8))) := looks_all ⟨trivial, trivial, trivial⟩
     refine hK _ _ (looks [(4, fun z => True), (6, fun z => True)]) ⟨.inr (.inl (by kernel_rfl)), .inr (.inl (by kernel_rfl)), trivial⟩ hT2 ?_
     clear hK K
     try simp only [pz]
     refine wpF_done (by kernel_rfl) ?_ _
     go_wp2_with fail
     go_end0
     exact ⟨rfl, hp.1.cast (by rw [HM8.out, HE2.out, Hl5.out, HE.out, Hl1.out]; unfold replyEnc; simp only [List.append_assoc]), hx5.comp hp.2⟩
end Go.Proofs.YtddobhihjljcgaaGreat
/- A message as one value: put into a box, read, written, as one operation. -/
namespace Go.Esc
open Go.RowKit
variable {P : Program}
theorem run_box (w : World) (T : TypeId) (v : Value) : (Instr.box T v).run P w = .ok (.pointer (some ⟨w.heap.size, 0, none⟩)) (w.alloc (.cells v.cells T)) := by
 unfold Instr.box
 simp [go_sem]
/-- A value goes into a new box. -/
theorem wp_box_val {ops : Array Oper} {rest : List Oper} {op : Oper} {a : Act} {w : World} {Q : Exit → Act → World → Prop} {x : Operand} {T : TypeId} {v : Value} {cs : Array Value} (hgd : op.guard = none) (ho : op.op = .box T x) (hx : a.eval x = v) (hv : v.cells = cs)
  (hk : wpList P ops Q rest (a.put op.dst (.pointer (some ⟨w.heap.size, 0, none⟩))) (w.alloc (.cells cs T))) : wpList P ops Q (op :: rest) a w := by
 subst hv
 refine wpList_plain hgd fun K hK => ?_
 unfold Oper.wp execOp
 simp only [ho, hx, run_box, Sem.run_bind, Sem.run_pure, Result.andThen_ok]
 exact hK _ _ hk
theorem Blk.range {w : World} {g : Nat} {cs : List Value} (h : Blk w g cs) : w.rangeAt g 0 cs := fun j v hv => by rw [Nat.zero_add]; exact h.cell j v hv
theorem Blk.there {w : World} {g : Nat} {cs : List Value} (h : Blk w g cs) {n : Nat} (hn : n = cs.length) : w.there g 0 n := fun j hj => by
 rw [Nat.zero_add]
 exact ⟨by rw [h.cell j _ (List.getElem?_eq_getElem (by omega))]; rfl, h.fr j⟩
/-- All cells of a block are written. -/
theorem Blk.all {w : World} {g : Nat} {cs ds : List Value} (h : Blk w g cs) (hl : ds.length = cs.length) : Blk (w.setCells g 0 ds) g ds := by
 refine ⟨fun k v hv => ?_, fun k => ?_⟩
 ·have := World.rangeAt_setCells_same w g 0 ds (h.there hl) k v hv
  rwa [Nat.zero_add] at this
 ·rw [World.frozen?_setCells]; exact h.fr k
end Go.Esc
namespace Go.Proofs.YtddobhihjljcgaaGreat
open Go.RowKit Go.Esc
set_option linter.unusedVariables false
set_option linter.unusedSimpArgs false
section
variable {ops : Array Oper} {rest : List Oper} {op : Oper} {a : Act} {w : World} {Q : Exit → Act → World → Prop} {x y : Operand} {m : MsgR} {h : MsgA} {g : Nat}
theorem wp_box_msg (hgd : op.guard = none) (ho : op.op = .box 36 x) (hx : a.eval x = m.val h)
  (hk : Blk (w.alloc (.cells (m.cells h).toArray 36)) w.heap.size (m.cells h) → wpList Tryz.prog ops Q rest (a.put op.dst (.pointer (some ⟨w.heap.size, 0, none⟩))) (w.alloc (.cells (m.cells h).toArray 36))) : wpList Tryz.prog ops Q (op :: rest) a w :=
 wp_box_val hgd ho hx rfl (hk (Blk.lit w (m.cells h).toArray _))
theorem wp_load_msg (hgd : op.guard = none) (ho : op.op = .load 36 x) (hx : a.eval x = .pointer (some ⟨g, 0, none⟩)) (hC : Blk w g (m.cells h))
  (hk : wpList Tryz.prog ops Q rest (a.put op.dst (m.val h)) w) : wpList Tryz.prog ops Q (op :: rest) a w :=
 wpList_load_mid hgd 36 x ho g 0 hx (m.cells h) _ hC.range Tryz.underlying36 rfl (by kernel_rfl) hk
theorem msg_ne (m : MsgR) (h : MsgA) : m.cells h ≠ [] := by unfold MsgR.cells; simp
theorem msg_one (m : MsgR) (h : MsgA) : (m.cells h).toArray.all (·.oneCell') = true := all_oneCell_toArray (by
 intro v hv
 unfold MsgR.cells at hv
 simp only [List.mem_cons, List.not_mem_nil, or_false] at hv
 rcases hv with rfl | rfl | rfl | rfl | rfl | rfl | rfl | rfl | rfl | rfl | rfl | rfl | rfl | rfl | rfl | rfl | rfl | rfl | rfl | rfl | rfl | rfl | rfl | rfl | rfl <;> rfl)
theorem wp_store_msg {cs : List Value} (hgd : op.guard = none) (ho : op.op = .store 36 x y) (hx : a.eval x = .pointer (some ⟨g, 0, none⟩)) (hy : a.eval y = m.val h) (hC : Blk w g cs) (hl : cs.length = 25)
  (hk : Blk (w.setCells g 0 (m.cells h)) g (m.cells h) → Ext (just g) w (w.setCells g 0 (m.cells h)) → wpList Tryz.prog ops Q rest (a.put op.dst undef) (w.setCells g 0 (m.cells h))) : wpList Tryz.prog ops Q (op :: rest) a w :=
 wpList_store_mid hgd 36 x y ho g 0 (m.cells h).toArray hx hy (hC.there (by rw [hl]; rfl)) (by kernel_rfl) (msg_one m h) (hk (hC.all (by rw [hl]; rfl)) (Ext.setCells _ _ _ _ rfl))
theorem zeroMsg (w : World) : (zeroValue 36).run Tryz.prog w = .ok (MsgR.zero.val MsgA.zero) w := by kernel_rfl
theorem wp_alloc_msg (hgd : op.guard = none) (ho : op.op = .alloc 36)
  (hk : Blk (w.alloc (.cells (MsgR.zero.cells MsgA.zero).toArray 36)) w.heap.size (MsgR.zero.cells MsgA.zero) → wpList Tryz.prog ops Q rest (a.put op.dst (.pointer (some ⟨w.heap.size, 0, none⟩))) (w.alloc (.cells (MsgR.zero.cells MsgA.zero).toArray 36))) : wpList Tryz.prog ops Q (op :: rest) a w := by
 refine wpList_plain hgd fun K hK => ?_
 have hrun : (Instr.alloc 36 true (.tuple #[])).run Tryz.prog w = .ok (.pointer (some ⟨w.heap.size, 0, none⟩)) (w.alloc (.cells (MsgR.zero.cells MsgA.zero).toArray 36)) := by
  unfold Instr.alloc
  simp only [Sem.run_bind, zeroMsg, Result.andThen_ok]
  simp [go_sem]
  rfl
 unfold Oper.wp execOp
 simp only [ho, hrun, Sem.run_bind, Sem.run_pure, Result.andThen_ok]
 exact hK _ _ (hk (Blk.lit w (MsgR.zero.cells MsgA.zero).toArray _))
end
end Go.Proofs.YtddobhihjljcgaaGreat
