/- The reference's writers of operations, commands. -/
import Derived.Test.YtddobhihjljcgaaGreatWiAM
import Derived.Test.YtddobhihjljcgaaGreatOpY
import Derived.Test.YtddobhihjljcgaaGreatMA
namespace Go.Esc
open Go.RowKit
/-- Bytes behind bytes. -/
theorem App.more {w wr w2 : World} {B n0 c c1 c2 : Nat} {a a1 a2 : Option Addr} {xs : List Value} {E X : List UInt8} (h : App w wr B 1 a n0 c xs a1 c1 E.length (bs E)) (g : App wr w2 B 1 a1 (n0 + E.length) c1 (xs ++ bs E) a2 c2 X.length (bs X)) (hb : ∀ ad, a = some ad → ad.block < w.heap.size) :
  ∃ F : List UInt8, F = E ++ X ∧ n0 + E.length + X.length = n0 + F.length ∧ App w w2 B 1 a n0 c xs a2 c2 F.length (bs F) :=
 ⟨E ++ X, rfl, by rw [List.length_append, Nat.add_assoc], (h.trans g hb).cast (by rw [List.length_append]) (by rw [bs_append])⟩
theorem App.up {w wr : World} {B k n0 c c1 m : Nat} {a a1 : Option Addr} {xs zs : List Value} (h : App w wr B k a n0 c xs a1 c1 m zs) (ho : Own w B a k n0 c xs) : Ext (upfrom B) w wr :=
 h.ext.mono fun i _ hi => by obtain ⟨ad, ha, e⟩ := hi; have := (ho.base ad ha).1; show B ≤ i; omega
theorem App.apart {w w' : World} {B k n c c' m r : Nat} {a a' : Option Addr} {xs zs : List Value} (h : App w w' B k a n c xs a' c' m zs) (hr : r < w.heap.size) (hb : ∀ ad, a = some ad → ad.block ≠ r) : ∀ ad, a' = some ad → ad.block ≠ r := by
 intro ad ha
 rcases h.loc with ⟨rfl, _⟩ | hl
 ·exact hb ad ha
 ·have := hl ad ha
  omega
theorem rd_up {w0 w : World} {B : Nat} {a : Option Addr} {cs : List Value} (h : Rd w0 a cs) (hB : w0.heap.size ≤ B) (hx : Ext (upfrom B) w0 w) : Rd w a cs := by
 by_cases hc : cs = []
 ·subst hc; exact Rd.nil _ _
 ·obtain ⟨ad, ha, hl⟩ := h.ne (List.length_pos_iff.2 hc)
  exact h.ext hx (fun bd hb => by rw [ha] at hb; cases hb; show ¬ B ≤ ad.block; omega)
theorem rd_far {w0 w : World} {B n c : Nat} {a b : Option Addr} {cs xs : List Value} (h : Rd w0 b cs) (hB : w0.heap.size ≤ B) (ho : Own w B a 1 n c xs) (hc : cs ≠ []) (ad : Addr) (hb : b = some ad) : ¬ blk a ad.block := by
 obtain ⟨bd, h1, h2⟩ := h.ne (List.length_pos_iff.2 hc)
 rw [h1] at hb
 cases hb
 exact ho.notBlk (by omega)
end Go.Esc
namespace Go.Proofs.YtddobhihjljcgaaGreat
open Go.RowKit Go.Esc
set_option linter.unusedVariables false
set_option linter.unusedSimpArgs false
theorem flat_take {α : Type} (f : α → List UInt8) (l : List α) (i : Nat) (x : α) (h : l[i]? = some x) : (l.take (i + 1)).flatMap f = (l.take i).flatMap f ++ f x := by
 rw [List.take_add_one, h]
 simp
set_option maxRecDepth 100000 in
set_option maxHeartbeats 4000000 in
theorem xlist_any (w w0 : World) (B : Nat) (a b : Option Addr) (c cb : Nat) (n0 : Nat) (xs : List Value) (l : List OpR) (ho : Own w B a 1 n0 c xs) (hB : B ≤ w.heap.size) (hn0 : n0 ≤ 70000) (hin : OpsIn w0 b l) (hw0 : w0.heap.size ≤ B) (hx0 : Ext (upfrom B) w0 w) (hok : ∀ o ∈ l, o.ok) (hl : l.length ≤ 40) (hf : ∀ o ∈ l, o.few) :
  Calls Tryz.prog 22 #[.slice a n0 c, .slice b l.length cb] w fun e w' => ∃ a' c', e = .returned (.slice a' (n0 + (opsEnc l).length) c') ∧ App w w' B 1 a n0 c xs a' c' (opsEnc l).length (bs (opsEnc l)) := by
 have hlb : ∀ ad, a = some ad → ad.block < w.heap.size := fun ad h => (ho.base ad h).2.1
 obtain ⟨P, hP, hrp, hgp⟩ := hin
 have hPl : P.length = l.length := by rw [← hP, List.length_map]
 have HP := Lib.hid hP
 have HPl := Lib.hid hPl
 clear hP hPl
 go_enter Tryz.func22, Tryz.ntmps22
 go_wp2_with fail
 refine (rint_any w B a c n0 xs (l.length : Int) ho hB (by omega) ⟨by omega, by omega⟩).mono ?_
 rintro e w1 ⟨a1, c1, rfl, hA1⟩
 have hil := (encI_length (l.length : Int) ⟨by omega, by omega⟩).1
 go_wp2_with fail
 go_loopw [0, 5] (fun s0 s5 wr => ∃ (i : Nat) (E : List UInt8) (a' : Option Addr) (c' : Nat), i ≤ l.length ∧ s5 = .int .i64 i ∧ E = encI (l.length : Int) ++ (l.take i).flatMap opEnc ∧ s0 = .slice a' (n0 + E.length) c' ∧ App w wr B 1 a n0 c xs a' c' E.length (bs E)) (fun _ s5 _ => l.length - (intOf s5).toNat)
 case atStart => exact ⟨0, encI (l.length : Int), a1, c1, Nat.zero_le _, rfl, by simp, rfl, hA1⟩
 case round =>
  obtain ⟨i, E, a2, c2, hi, rfl, hE, rfl, happ⟩ := hrel
  have hEl : E.length ≤ 24010 := by
   rw [hE, List.length_append]
   have := flat_le (l.take i) (f := opEnc) (k := 600) (fun x hx => opEnc_le (hok x (List.mem_of_mem_take hx)) (hf x (List.mem_of_mem_take hx)))
   rw [List.length_take] at this
   omega
  have HE := Lib.hid hE
  clear hE hA1
  by_cases hlt : i < l.length
  ·have d1 : decide (i < l.length) = true := decT hlt
   obtain ⟨y, hym⟩ : ∃ y, P[i]? = some y := ⟨_, List.getElem?_eq_getElem (by have := HPl.out; omega)⟩
   have hyo : l[i]? = some y.o := by rw [← HP.out, List.getElem?_map, hym]; rfl
   have hgy := hgp y (List.mem_of_getElem? hym)
   have hoy := hok y.o (List.mem_of_getElem? hyo)
   have hfy := hf y.o (List.mem_of_getElem? hyo)
   have hxr := hx0.comp (happ.up ho)
   have hrq := rd_up hrp hw0 hxr
   obtain ⟨ob, oof, hsb, _⟩ := rows_shape kOp (by omega) hrq (by have := HPl.out; omega)
   rw [hsb] at hrq
   have hrk := fun j v h => rows_cell kOp hrq hym j v h
   have y0 : wr.cell? ⟨ob, oof + i * 11, none⟩ = some (.int .i64 y.o.dot.dev) := rows_cell kOp hrq hym 0 _ rfl
   have y1 : wr.cell? ⟨ob, oof + i * 11 + 1, none⟩ = some (.int .i64 y.o.dot.ep) := rows_cell kOp hrq hym 1 _ rfl
   have y2 : wr.cell? ⟨ob, oof + i * 11 + 2, none⟩ = some (.int .i64 y.o.dot.seq) := rows_cell kOp hrq hym 2 _ rfl
   have y3 : wr.cell? ⟨ob, oof + i * 11 + 3, none⟩ = some (.int .i64 y.o.coll) := rows_cell kOp hrq hym 3 _ rfl
   have y4 : wr.cell? ⟨ob, oof + i * 11 + 4, none⟩ = some (.int .i64 y.o.ver) := rows_cell kOp hrq hym 4 _ rfl
   have y5 : wr.cell? ⟨ob, oof + i * 11 + 5, none⟩ = some (.int .i64 y.o.kind) := rows_cell kOp hrq hym 5 _ rfl
   have y6 : wr.cell? ⟨ob, oof + i * 11 + 6, none⟩ = some (.string (str y.o.key)) := rows_cell kOp hrq hym 6 _ rfl
   have y7 : wr.cell? ⟨ob, oof + i * 11 + 7, none⟩ = some (.string (str y.o.text)) := rows_cell kOp hrq hym 7 _ rfl
   have y8 : wr.cell? ⟨ob, oof + i * 11 + 8, none⟩ = some (.int .i64 y.o.n) := rows_cell kOp hrq hym 8 _ rfl
   have y9 : wr.cell? ⟨ob, oof + i * 11 + 9, none⟩ = some (.int .i64 y.o.time) := rows_cell kOp hrq hym 9 _ rfl
   have y10 : wr.cell? ⟨ob, oof + i * 11 + 10, none⟩ = some (.slice y.a y.o.dots.length y.c) := rows_cell kOp hrq hym 10 _ rfl
   have HT := Lib.hid (flat_take opEnc l i y.o hyo)
   have hb : b = some ⟨ob, oof, none⟩ := hsb
   have hda := rd_far hgy.rd hw0 happ.own
   have hrd := rd_up hgy.rd hw0 hxr
   clear hrk hrq hyo hym hsb
   subst hb
   go_wp2_with fail
   refine (xbytes_any wr B a2 c2 _ _ y.o y.a y.c happ.own (by have := happ.ext.size; omega) (by omega) hoy hrd hda (by have := hfy.2.2; omega) (by have := hfy.1; omega) (by have := hfy.2.1; omega)).mono ?_
   rintro e w3 ⟨a3, c3, rfl, hp⟩
   obtain ⟨F, hF, hl3, hA3⟩ := happ.more hp hlb
   rw [hl3]
   have HF := Lib.hid hF
   clear hF hl3 hp
   go_wp2_with fail
   go_roundw
   case rel => exact ⟨i + 1, F, a3, c3, by omega, by go_num, by rw [HF.out, HE.out, HT.out, List.append_assoc], rfl, hA3⟩
   case measure => simp [intOf]; omega
  ·have d1 : decide (i < l.length) = false := decF hlt
   have HF := Lib.hid (show opsEnc l = E by rw [HE.out, List.take_of_length_le (by omega)]; simp [opsEnc, encs])
   go_wp2_with fail
   go_ret
   rw [HF.out]
   exact ⟨a2, c2, rfl, happ⟩
set_option maxRecDepth 100000 in
set_option maxHeartbeats 4000000 in
theorem xcmd_any (w w0 : World) (B : Nat) (a : Option Addr) (c n0 : Nat) (xs : List Value) (C : CmdR) (h : CmdA) (ho : Own w B a 1 n0 c xs) (hB : B ≤ w.heap.size) (hn0 : n0 ≤ 1000) (hin : C.In w0 h) (hw0 : w0.heap.size ≤ B) (hx0 : Ext (upfrom B) w0 w) (hok : C.ok) (hf : C.few) :
  Calls Tryz.prog 19 #[.slice a n0 c, C.val h] w fun e w' => ∃ a' c', e = .returned (.slice a' (n0 + (cmdEnc C).length) c') ∧ App w w' B 1 a n0 c xs a' c' (cmdEnc C).length (bs (cmdEnc C)) := by
 have hlb0 : ∀ ad, a = some ad → ad.block < w.heap.size := fun ad h => (ho.base ad h).2.1
 have hwl := hf.wl
 go_enter Tryz.func19, Tryz.ntmps19
 unfold CmdR.val
 go_upto_region 1 with fail
 have hb0 := Blk.lit w #[.int .i64 C.kind, .int .i64 C.dev, .int .i64 C.ep, .int .i64 C.req, .int .i64 C.n, .slice h.w C.wants.length h.wc, .slice h.o C.ops.length h.oc] 27
 have hx := Ext.alloc no w (.cells #[.int .i64 C.kind, .int .i64 C.dev, .int .i64 C.ep, .int .i64 C.req, .int .i64 C.n, .slice h.w C.wants.length h.wc, .slice h.o C.ops.length h.oc] 27)
 have ho1 := ho.ext hx (fun _ _ h => h)
 have hs1 : w.heap.size < (w.alloc (.cells #[.int .i64 C.kind, .int .i64 C.dev, .int .i64 C.ep, .int .i64 C.req, .int .i64 C.n, .slice h.w C.wants.length h.wc, .slice h.o C.ops.length h.oc] 27)).heap.size := by simp
 have hng : ¬ blk a w.heap.size := by rintro ⟨ad, h, he⟩; have := hlb0 ad h; omega
 have hx1 : Ext (upfrom B) w0 (w.alloc (.cells #[.int .i64 C.kind, .int .i64 C.dev, .int .i64 C.ep, .int .i64 C.req, .int .i64 C.n, .slice h.w C.wants.length h.wc, .slice h.o C.ops.length h.oc] 27)) := hx0.comp (hx.mono (fun _ _ h => h.elim))
 generalize w.alloc (.cells #[.int .i64 C.kind, .int .i64 C.dev, .int .i64 C.ep, .int .i64 C.req, .int .i64 C.n, .slice h.w C.wants.length h.wc, .slice h.o C.ops.length h.oc] 27) = w1 at *
 have hlb : ∀ ad, a = some ad → ad.block < w1.heap.size := fun ad h => by have := hlb0 ad h; omega
 have hB1 : B ≤ w1.heap.size := by omega
 have b0 := hb0.cell 0 _ rfl
 have b1 := hb0.cell 1 _ rfl
 have b2 := hb0.cell 2 _ rfl
 have b3 := hb0.cell 3 _ rfl
 have b4 := hb0.cell 4 _ rfl
 have b5 := hb0.cell 5 _ rfl
 have b6 := hb0.cell 6 _ rfl
 generalize w.heap.size = g at hb0 hng b0 b1 b2 b3 b4 b5 b6 hs1 ⊢
 go_wp2_with fail
 refine (xnums_any _ B a (some ⟨w1.heap.size, 0, none⟩) c 6 n0 xs [C.kind, C.dev, C.ep, C.req, C.n, (C.wants.length : Int)] (ho1.alloc _) (by simp; omega) (by omega) (Rd.lit w1 _ _ _) (fun _ ad h => by cases h; rintro ⟨ad', ha', he⟩; have := hlb ad' ha'; simp only at he; omega) (by simp) (by
  intro n hn
  simp at hn
  rcases hn with rfl | rfl | rfl | rfl | rfl | rfl
  ·exact hok.kind
  ·exact hok.dev
  ·exact hok.ep
  ·exact hok.req
  ·exact hok.n
  ·exact len_ok (by omega))).mono ?_
 rintro e w2 ⟨a2, c2, rfl, hA2⟩
 have hA := App.pre (Ext.alloc no w1 _) hA2
 obtain ⟨E1, hE⟩ : ∃ E, E = [C.kind, C.dev, C.ep, C.req, C.n, (C.wants.length : Int)].flatMap encI := ⟨_, rfl⟩
 rw [← hE] at hA ⊢
 have hEl : E1.length ≤ 60 := by
  rw [hE]
  have := encs_le (l := [C.kind, C.dev, C.ep, C.req, C.n, (C.wants.length : Int)]) (by simp [hok.kind, hok.dev, hok.ep, hok.req, hok.n, len_ok (show C.wants.length ≤ 1000 by omega)])
  exact this
 have HE1 := Lib.hid hE
 clear hE hA2
 go_wp2_with fail
 go_loopw [0, 5] (fun s0 s5 wr => ∃ (i : Nat) (E : List UInt8) (a' : Option Addr) (c' : Nat), i ≤ C.wants.length ∧ s5 = .int .i64 i ∧ E = E1 ++ (C.wants.take i).flatMap wantEnc ∧ s0 = .slice a' (n0 + E.length) c' ∧ App w1 wr B 1 a n0 c xs a' c' E.length (bs E)) (fun _ s5 _ => C.wants.length - (intOf s5).toNat)
 case atStart => exact ⟨0, E1, a2, c2, Nat.zero_le _, rfl, by simp, rfl, hA⟩
 case round =>
  obtain ⟨i, E, a3, c3, hi, rfl, hE, rfl, happ⟩ := hrel
  have hEl2 : E.length ≤ 60 + 100 * C.wants.length := by
   rw [hE, List.length_append]
   have := flat_le (C.wants.take i) (f := wantEnc) (k := 100) (fun x hx => wantEnc_le (hok.wants x (List.mem_of_mem_take hx)) (hf.wk x (List.mem_of_mem_take hx)))
   rw [List.length_take] at this
   omega
  have HE := Lib.hid hE
  clear hE hA
  have z5 := happ.ext.keeps b5 hng
  have hxr := hx1.comp (happ.up ho1)
  by_cases hlt : i < C.wants.length
  ·have d1 : decide (i < C.wants.length) = true := decT hlt
   obtain ⟨y, hym⟩ : ∃ y, C.wants[i]? = some y := ⟨_, List.getElem?_eq_getElem hlt⟩
   have hyk := hok.wants y (List.mem_of_getElem? hym)
   have hfy := hf.wk y (List.mem_of_getElem? hym)
   have hrq := rd_up hin.x hw0 hxr
   obtain ⟨ob, oof, hsb, _⟩ := rows_shape kWant (by omega) hrq (by omega)
   rw [hsb] at hrq z5
   have y0 : wr.cell? ⟨ob, oof + i * 4, none⟩ = some (.string (str y.key)) := rows_cell kWant hrq hym 0 _ rfl
   have y1 : wr.cell? ⟨ob, oof + i * 4 + 1, none⟩ = some (.int .i64 y.up) := rows_cell kWant hrq hym 1 _ rfl
   have y2 : wr.cell? ⟨ob, oof + i * 4 + 2, none⟩ = some (.int .i64 y.down) := rows_cell kWant hrq hym 2 _ rfl
   have y3 : wr.cell? ⟨ob, oof + i * 4 + 3, none⟩ = some (.int .i64 y.ids) := rows_cell kWant hrq hym 3 _ rfl
   have HT := Lib.hid (flat_take wantEnc C.wants i y hym)
   clear hrq hym hsb
   have hq := Blk.lit wr #[.string (str y.key), .int .i64 y.up, .int .i64 y.down, .int .i64 y.ids] 105
   have hxq := Ext.alloc no wr (.cells #[.string (str y.key), .int .i64 y.up, .int .i64 y.down, .int .i64 y.ids] 105)
   have ha3 : ∀ ad, a3 = some ad → ad.block < wr.heap.size := fun ad h => (happ.own.base ad h).2.1
   have hBw : B ≤ wr.heap.size := by have := happ.ext.size; omega
   have happ := happ.later hxq
   have hws : wr.heap.size < (wr.alloc (.cells #[.string (str y.key), .int .i64 y.up, .int .i64 y.down, .int .i64 y.ids] 105)).heap.size := by simp
   go_upto_region 6 with fail
   generalize wr.alloc (.cells #[.string (str y.key), .int .i64 y.up, .int .i64 y.down, .int .i64 y.ids] 105) = wb at *
   obtain ⟨gv, hgv⟩ : ∃ v, v = wr.heap.size := ⟨_, rfl⟩
   rw [← hgv] at hq hBw hws ⊢
   have hgv3 : ¬ blk a3 gv := by rintro ⟨ad, h, he⟩; have := ha3 ad h; omega
   have ha3 : ∀ ad, a3 = some ad → ad.block < wb.heap.size := fun ad h => by have := ha3 ad h; omega
   have hBw : B ≤ wb.heap.size := by omega
   have q0 := hq.cell 0 _ rfl
   have q1 := hq.cell 1 _ rfl
   have q2 := hq.cell 2 _ rfl
   have q3 := hq.cell 3 _ rfl
   have hints : ∀ n ∈ [y.up, y.down, y.ids], I64ok n := by simp [hyk.up, hyk.down, hyk.ids]
   clear hgv y0 y1 y2 y3 z5 hxq
   refine wp_region_F [2, 5, 7, 9] (looks [(2, fun z => Ext (blk a3) wb z), (5, fun z => Ext (blk a3) wb z), (7, fun z => Ext (blk a3) wb z), (9, fun z => Ext (blk a3) wb z)]) (by kernel_rfl) ?_
   have hXd := Ext.drew (blk a3) wb
   have hAd := happ.later (Ext.drew no wb)
   generalize wb.drew = wd at *
   have hT0 : ∀ k, looks [(2, fun z => Ext (blk a3) wb z), (5, fun z => Ext (blk a3) wb z), (7, fun z => Ext (blk a3) wb z), (9, fun z => Ext (blk a3) wb z)] k (wd) := looks_all ⟨hXd, hXd, hXd, hXd, trivial⟩
   refine wpF_tk 0 (v := ?_) rfl hT0 (by rfl) ?_ ?_
   rotate_left
   ·(intro wq; go_simp; try with_reducible rfl)
   simp only [pz]
   refine wpF_tk 1 (v := ?_) rfl hT0 (by rfl) ?_ ?_
   rotate_left
   ·(intro wq; go_simp; try with_reducible rfl)
   simp only [pz]
   refine wpF_lk 2 (v := .string (str y.key)) rfl hT0 (by rfl) (fun w hS => by have hS : Ext (blk a3) wb w := hS; have q := hS.keeps q0 hgv3; go_simp) ?_
   simp only [pz]
   refine wpF_tk 4 (v := ?_) rfl hT0 (by rfl) ?_ ?_
   rotate_left
   ·(intro wq; go_simp; try with_reducible rfl)
   simp only [pz]
   refine wpF_lk 5 (v := .int .i64 y.up) rfl hT0 (by rfl) (fun w hS => by have hS : Ext (blk a3) wb w := hS; have q := hS.keeps q1 hgv3; go_simp) ?_
   simp only [pz]
   refine wpF_tk 6 (v := ?_) rfl hT0 (by rfl) ?_ ?_
   rotate_left
   ·(intro wq; go_simp; try with_reducible rfl)
   simp only [pz]
   refine wpF_lk 7 (v := .int .i64 y.down) rfl hT0 (by rfl) (fun w hS => by have hS : Ext (blk a3) wb w := hS; have q := hS.keeps q2 hgv3; go_simp) ?_
   simp only [pz]
   refine wpF_tk 8 (v := ?_) rfl hT0 (by rfl) ?_ ?_
   rotate_left
   ·(intro wq; go_simp; try with_reducible rfl)
   simp only [pz]
   refine wpF_lk 9 (v := .int .i64 y.ids) rfl hT0 (by rfl) (fun w hS => by have hS : Ext (blk a3) wb w := hS; have q := hS.keeps q3 hgv3; go_simp) ?_
   simp only [pz]
   refine wpF_execs [3, 10] (by kernel_rfl) (by simp) ?_
   intro j hj
   simp only [List.mem_cons, List.not_mem_nil, or_false] at hj
   rcases hj with rfl | rfl
   ·refine ⟨_, rfl, by rfl, ?_⟩
    intro K hK
    go_simp
    refine (rtext_any wd B a3 c3 _ _ y.key hAd.own (by have := hXd.size; have := hBw; omega) (by omega) (by omega)).mono ?_
    rintro e x1 ⟨aT, cT, rfl, hp⟩
    obtain ⟨F1, hF1, hl1, hA1⟩ := (hAd).more hp hlb
    rw [hl1]
    have HF1 := Lib.hid hF1
    have hF1l : F1.length ≤ E.length + 70 := by rw [hF1, List.length_append]; have := encT_le (t := y.key) (by omega); omega
    have hX1 : Ext (blk a3) wb x1 := (hXd).comp hp.ext
    clear hF1 hl1 hp
    have hT1 : ∀ k, looks [(2, fun z => Ext (blk a3) wb z), (5, fun z => Ext (blk a3) wb z), (7, fun z => Ext (blk a3) wb z), (9, fun z => Ext (blk a3) wb z)] k (x1) := looks_all ⟨hX1, hX1, hX1, hX1, trivial⟩
    refine hK _ _ (looks [(2, fun z => Ext (blk a3) wb z), (5, fun z => Ext (blk a3) wb z), (7, fun z => Ext (blk a3) wb z), (9, fun z => Ext (blk a3) wb z)]) ⟨.inr (.inl (by kernel_rfl)), .inr (.inr (fun x h => h)), .inr (.inr (fun x h => h)), .inr (.inr (fun x h => h)), trivial⟩ hT1 ?_
    clear hK K
    try simp only [pz]
    refine wpF_exec 10 rfl (by kernel_rfl) (by rfl) ?_
    intro K hK
    go_simp
    have hR : Rd (x1.alloc (.cells #[.int .i64 y.up, .int .i64 y.down, .int .i64 y.ids] 3)) (some ⟨x1.heap.size, 0, none⟩) (is [y.up, y.down, y.ids]) := Rd.lit x1 _ _ _
    have hXr := Ext.alloc no x1 (.cells #[.int .i64 y.up, .int .i64 y.down, .int .i64 y.ids] 3)
    have hXs : Ext (blk a3) wb (x1.alloc (.cells #[.int .i64 y.up, .int .i64 y.down, .int .i64 y.ids] 3)) := (hX1).comp (hXr.mono (fun _ _ h => h.elim))
    obtain ⟨rb, hrb⟩ : ∃ v, v = x1.heap.size := ⟨_, rfl⟩
    rw [← hrb] at hR ⊢
    have hRc : rb < (x1.alloc (.cells #[.int .i64 y.up, .int .i64 y.down, .int .i64 y.ids] 3)).heap.size := by rw [hrb]; simp
    have hRb : ∀ ad, aT = some ad → ad.block ≠ rb := fun ad h => by have := (hA1.own.base ad h).2.1; omega
    have hA1 := hA1.later hXr
    clear hrb hXr
    generalize x1.alloc (.cells #[.int .i64 y.up, .int .i64 y.down, .int .i64 y.ids] 3) = y2 at *
    have hT2 : ∀ k, looks [(2, fun z => Ext (blk a3) wb z), (5, fun z => Ext (blk a3) wb z), (7, fun z => Ext (blk a3) wb z), (9, fun z => Ext (blk a3) wb z)] k (y2) := looks_all ⟨hXs, hXs, hXs, hXs, trivial⟩
    refine hK _ _ (looks [(2, fun z => Ext (blk a3) wb z), (5, fun z => Ext (blk a3) wb z), (7, fun z => Ext (blk a3) wb z), (9, fun z => Ext (blk a3) wb z)]) ⟨.inr (.inr (fun x h => h)), .inr (.inl (by kernel_rfl)), .inr (.inl (by kernel_rfl)), .inr (.inl (by kernel_rfl)), trivial⟩ hT2 ?_
    clear hK K
    try simp only [pz]
    refine wpF_exec 11 rfl (by kernel_rfl) (by rfl) ?_
    intro K hK
    go_simp
    refine (xnums_any y2 B aT (some ⟨rb, 0, none⟩) cT 3 _ _ [y.up, y.down, y.ids] hA1.own (by have := hXs.size; have := hBw; omega) (by omega) hR (fun _ ad h => by cases h; rintro ⟨ad', ha', he⟩; exact hRb ad' ha' he) (by simp) hints).mono ?_
    rintro e w9 ⟨a9, c9, rfl, hp⟩
    obtain ⟨F2, hF2, hl2, hA2⟩ := hA1.more hp hlb
    rw [hl2]
    have HF2 := Lib.hid hF2
    have hX9 := (hXs).comp ((Ext.refl (blk a3) y2).mono (fun _ _ h => h))
    clear hF2 hl2 hp
    have hT3 : ∀ k, looks [(2, fun z => True), (5, fun z => True), (7, fun z => True), (9, fun z => True)] k (w9) := looks_all ⟨trivial, trivial, trivial, trivial, trivial⟩
    refine hK _ _ (looks [(2, fun z => True), (5, fun z => True), (7, fun z => True), (9, fun z => True)]) ⟨.inr (.inl (by kernel_rfl)), .inr (.inl (by kernel_rfl)), .inr (.inl (by kernel_rfl)), .inr (.inl (by kernel_rfl)), trivial⟩ hT3 ?_
    clear hK K
    try simp only [pz]
    refine wpF_tk 12 (v := ?_) rfl hT3 (by rfl) ?_ ?_
    rotate_left
    ·(intro wq; go_simp; try with_reducible rfl)
    simp only [pz]
    refine wpF_done (by kernel_rfl) ?_ _
    go_wp2_with fail
    go_roundw
    case rel => exact ⟨i + 1, F2, a9, c9, by omega, by go_num, by rw [HF2.out, HF1.out, HE.out, HT.out, List.append_assoc, List.append_assoc]; rfl, rfl, hA2⟩
    case measure => simp [intOf]; omega
   ·refine ⟨_, rfl, by rfl, ?_⟩
    intro K hK
    go_simp
    have hR : Rd (wd.alloc (.cells #[.int .i64 y.up, .int .i64 y.down, .int .i64 y.ids] 3)) (some ⟨wd.heap.size, 0, none⟩) (is [y.up, y.down, y.ids]) := Rd.lit wd _ _ _
    have hXr := Ext.alloc no wd (.cells #[.int .i64 y.up, .int .i64 y.down, .int .i64 y.ids] 3)
    have hXs : Ext (blk a3) wb (wd.alloc (.cells #[.int .i64 y.up, .int .i64 y.down, .int .i64 y.ids] 3)) := (hXd).comp (hXr.mono (fun _ _ h => h.elim))
    obtain ⟨rb, hrb⟩ : ∃ v, v = wd.heap.size := ⟨_, rfl⟩
    rw [← hrb] at hR ⊢
    have hRc : rb < (wd.alloc (.cells #[.int .i64 y.up, .int .i64 y.down, .int .i64 y.ids] 3)).heap.size := by rw [hrb]; simp
    have hRa' : ∀ ad, a3 = some ad → ad.block ≠ rb := fun ad h => by have := ha3 ad h; have := hXd.size; omega
    have hRa : ¬ blk a3 rb := by rintro ⟨ad, h, he⟩; exact hRa' ad h he
    have hB3 := (hAd).later hXr
    clear hrb hXr
    generalize wd.alloc (.cells #[.int .i64 y.up, .int .i64 y.down, .int .i64 y.ids] 3) = y1 at *
    have hT1 : ∀ k, looks [(2, fun z => Ext (blk a3) wb z), (5, fun z => Ext (blk a3) wb z), (7, fun z => Ext (blk a3) wb z), (9, fun z => Ext (blk a3) wb z)] k (y1) := looks_all ⟨hXs, hXs, hXs, hXs, trivial⟩
    refine hK _ _ (looks [(2, fun z => Ext (blk a3) wb z), (5, fun z => Ext (blk a3) wb z), (7, fun z => Ext (blk a3) wb z), (9, fun z => Ext (blk a3) wb z)]) ⟨.inr (.inr (fun x h => h)), .inr (.inl (by kernel_rfl)), .inr (.inl (by kernel_rfl)), .inr (.inl (by kernel_rfl)), trivial⟩ hT1 ?_
    clear hK K
    try simp only [pz]
    refine wpF_exec 3 rfl (by kernel_rfl) (by rfl) ?_
    intro K hK
    go_simp
    refine (rtext_any y1 B a3 c3 _ _ y.key hB3.own (by have := hXs.size; have := hBw; omega) (by omega) (by omega)).mono ?_
    rintro e x2 ⟨aT, cT, rfl, hp⟩
    obtain ⟨F1, hF1, hl1, hA1⟩ := (hB3).more hp hlb
    rw [hl1]
    have HF1 := Lib.hid hF1
    have hF1l : F1.length ≤ E.length + 70 := by rw [hF1, List.length_append]; have := encT_le (t := y.key) (by omega); omega
    have hX1 : Ext (blk a3) wb x2 := (hXs).comp hp.ext
    have hR := hR.ext hp.ext (fun ad h => by cases h; exact hRa)
    have hRb := hp.apart hRc hRa'
    clear hF1 hl1 hp
    have hT2 : ∀ k, looks [(2, fun z => Ext (blk a3) wb z), (5, fun z => Ext (blk a3) wb z), (7, fun z => Ext (blk a3) wb z), (9, fun z => Ext (blk a3) wb z)] k (x2) := looks_all ⟨hX1, hX1, hX1, hX1, trivial⟩
    refine hK _ _ (looks [(2, fun z => Ext (blk a3) wb z), (5, fun z => Ext (blk a3) wb z), (7, fun z => Ext (blk a3) wb z), (9, fun z => Ext (blk a3) wb z)]) ⟨.inr (.inl (by kernel_rfl)), .inr (.inr (fun x h => h)), .inr (.inr (fun x h => h)), .inr (.inr (fun x h => h)), trivial⟩ hT2 ?_
    clear hK K
    try simp only [pz]
    refine wpF_exec 11 rfl (by kernel_rfl) (by rfl) ?_
    intro K hK
    go_simp
    refine (xnums_any x2 B aT (some ⟨rb, 0, none⟩) cT 3 _ _ [y.up, y.down, y.ids] hA1.own (by have := hX1.size; have := hBw; omega) (by omega) hR (fun _ ad h => by cases h; rintro ⟨ad', ha', he⟩; exact hRb ad' ha' he) (by simp) hints).mono ?_
    rintro e w9 ⟨a9, c9, rfl, hp⟩
    obtain ⟨F2, hF2, hl2, hA2⟩ := hA1.more hp hlb
    rw [hl2]
    have HF2 := Lib.hid hF2
    have hX9 := (hX1).comp ((Ext.refl (blk a3) x2).mono (fun _ _ h => h))
    clear hF2 hl2 hp
    have hT3 : ∀ k, looks [(2, fun z => True), (5, fun z => True), (7, fun z => True), (9, fun z => True)] k (w9) := looks_all ⟨trivial, trivial, trivial, trivial, trivial⟩
    refine hK _ _ (looks [(2, fun z => True), (5, fun z => True), (7, fun z => True), (9, fun z => True)]) ⟨.inr (.inl (by kernel_rfl)), .inr (.inl (by kernel_rfl)), .inr (.inl (by kernel_rfl)), .inr (.inl (by kernel_rfl)), trivial⟩ hT3 ?_
    clear hK K
    try simp only [pz]
    refine wpF_tk 12 (v := ?_) rfl hT3 (by rfl) ?_ ?_
    rotate_left
    ·(intro wq; go_simp; try with_reducible rfl)
    simp only [pz]
    refine wpF_done (by kernel_rfl) ?_ _
    go_wp2_with fail
    go_roundw
    case rel => exact ⟨i + 1, F2, a9, c9, by omega, by go_num, by rw [HF2.out, HF1.out, HE.out, HT.out, List.append_assoc, List.append_assoc]; rfl, rfl, hA2⟩
    case measure => simp [intOf]; omega
  ·have d1 : decide (i < C.wants.length) = false := decF hlt
   have z6 := happ.ext.keeps b6 hng
   have HF := Lib.hid (show E = E1 ++ C.wants.flatMap wantEnc by rw [HE.out, List.take_of_length_le (by omega)])
   go_wp2_with fail
   refine (xlist_any wr w0 B a3 h.o c3 h.oc _ _ C.ops happ.own (by have := happ.ext.size; omega) (by omega) hin.o hw0 hxr hok.ops hf.ol hf.of).mono ?_
   rintro e w5 ⟨a5, c5, rfl, hp⟩
   obtain ⟨F, hF, hl5, hA5⟩ := happ.more hp hlb
   have HG := Lib.hid (show cmdEnc C = F by rw [hF, HF.out, HE1.out]; rfl)
   rw [hl5]
   clear hF hl5 hp
   go_wp2_with fail
   go_ret
   rw [HG.out]
   exact ⟨a5, c5, rfl, App.pre hx hA5⟩
end Go.Proofs.YtddobhihjljcgaaGreat
