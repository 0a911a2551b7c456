/- Walks of the package coll: add, remove. -/
import Derived.Test.YtejmmkjpncpedaaGreatCoF
import Derived.Test.YtejmmkjpncpedaaGreatCoG
import Derived.Test.YtejmmkjpncpedaaGreatCoS
namespace Go.Proofs.YtejmmkjpncpedaaGreat
open Go.RowKit Go.Esc
set_option linter.unusedVariables false
set_option linter.unusedSimpArgs false
set_option maxRecDepth 100000 in
set_option maxHeartbeats 4000000 in
theorem add_any (w : World) (B : Nat) (C : CollR) (h : Six) (o : OpR) (a : Option Addr) (c : Nat) (hm : Mine C w B h) (hB : B ≤ w.heap.size) (hs : C.small 1099511627775) (hok : C.ok) :
    Calls Tryz.prog 24 #[C.val h, o.v a c] w fun e w' => ∃ h', e = .returned (({ C with elems := addL C.gone C.elems o } : CollR).val h') ∧ Mine { C with elems := addL C.gone C.elems o } w' B h' ∧ Ext (upfrom B) w w' := by
  have hmf : ∀ (fn : Fn) (first cap : Array Value) (w : World), (Instr.makeFunc fn first cap).run Tryz.prog w = .ok (.func fn first cap) w := fun _ _ _ _ => rfl
  go_enter Tryz.func24, Tryz.ntmps24
  unfold CollR.val OpR.v
  go_upto_region 1 with fail
  have hC_ := Blk.at (w) #[.slice h.v C.v.length h.vc, .slice h.r C.regs.length h.rc, .slice h.e C.elems.length h.ec, .slice h.g C.gone.length h.gc, .slice h.s C.sums.length h.sc, .slice h.b C.binds.length h.bc] 32 (w.heap.size) (by simp)
  have hx_0 := Ext.alloc no (w) (.cells #[.slice h.v C.v.length h.vc, .slice h.r C.regs.length h.rc, .slice h.e C.elems.length h.ec, .slice h.g C.gone.length h.gc, .slice h.s C.sums.length h.sc, .slice h.b C.binds.length h.bc] 32)
  have hO_ := Blk.at (w.alloc (.cells #[.slice h.v C.v.length h.vc, .slice h.r C.regs.length h.rc, .slice h.e C.elems.length h.ec, .slice h.g C.gone.length h.gc, .slice h.s C.sums.length h.sc, .slice h.b C.binds.length h.bc] 32)) #[.int .i64 o.dot.dev, .int .i64 o.dot.ep, .int .i64 o.dot.seq, .int .i64 o.coll, .int .i64 o.ver, .int .i64 o.kind, .string (str o.key), .string (str o.text), .int .i64 o.n, .int .i64 o.time, .slice a o.dots.length c] 51 (w.heap.size + 1) (by simp)
  have hx_1 := Ext.alloc no (w.alloc (.cells #[.slice h.v C.v.length h.vc, .slice h.r C.regs.length h.rc, .slice h.e C.elems.length h.ec, .slice h.g C.gone.length h.gc, .slice h.s C.sums.length h.sc, .slice h.b C.binds.length h.bc] 32)) (.cells #[.int .i64 o.dot.dev, .int .i64 o.dot.ep, .int .i64 o.dot.seq, .int .i64 o.coll, .int .i64 o.ver, .int .i64 o.kind, .string (str o.key), .string (str o.text), .int .i64 o.n, .int .i64 o.time, .slice a o.dots.length c] 51)
  have hR_ := Blk.at ((w.alloc (.cells #[.slice h.v C.v.length h.vc, .slice h.r C.regs.length h.rc, .slice h.e C.elems.length h.ec, .slice h.g C.gone.length h.gc, .slice h.s C.sums.length h.sc, .slice h.b C.binds.length h.bc] 32)).alloc (.cells #[.int .i64 o.dot.dev, .int .i64 o.dot.ep, .int .i64 o.dot.seq, .int .i64 o.coll, .int .i64 o.ver, .int .i64 o.kind, .string (str o.key), .string (str o.text), .int .i64 o.n, .int .i64 o.time, .slice a o.dots.length c] 51)) #[.slice none 0 0, .slice none 0 0, .slice none 0 0, .slice none 0 0, .slice none 0 0, .slice none 0 0] 32 (w.heap.size + 1 + 1) (by simp)
  have hx_2 := Ext.alloc no ((w.alloc (.cells #[.slice h.v C.v.length h.vc, .slice h.r C.regs.length h.rc, .slice h.e C.elems.length h.ec, .slice h.g C.gone.length h.gc, .slice h.s C.sums.length h.sc, .slice h.b C.binds.length h.bc] 32)).alloc (.cells #[.int .i64 o.dot.dev, .int .i64 o.dot.ep, .int .i64 o.dot.seq, .int .i64 o.coll, .int .i64 o.ver, .int .i64 o.kind, .string (str o.key), .string (str o.text), .int .i64 o.n, .int .i64 o.time, .slice a o.dots.length c] 51)) (.cells #[.slice none 0 0, .slice none 0 0, .slice none 0 0, .slice none 0 0, .slice none 0 0, .slice none 0 0] 32)
  have hC := (hC_.ext (by simp) hx_1 (fun h => h)).ext (by simp) hx_2 (fun h => h)
  have hO := hO_.ext (by simp) hx_2 (fun h => h)
  have hR := hR_
  have hx1 := ((hx_0).comp hx_1).comp hx_2
  clear hC_ hx_0 hO_ hx_1 hR_ hx_2
  generalize ((w.alloc (.cells #[.slice h.v C.v.length h.vc, .slice h.r C.regs.length h.rc, .slice h.e C.elems.length h.ec, .slice h.g C.gone.length h.gc, .slice h.s C.sums.length h.sc, .slice h.b C.binds.length h.bc] 32)).alloc (.cells #[.int .i64 o.dot.dev, .int .i64 o.dot.ep, .int .i64 o.dot.seq, .int .i64 o.coll, .int .i64 o.ver, .int .i64 o.kind, .string (str o.key), .string (str o.text), .int .i64 o.n, .int .i64 o.time, .slice a o.dots.length c] 51)).alloc (.cells #[.slice none 0 0, .slice none 0 0, .slice none 0 0, .slice none 0 0, .slice none 0 0, .slice none 0 0] 32) = w1 at *
  have hsz := hR.lt (by simp)
  obtain ⟨g, hg⟩ : ∃ g, g = w.heap.size := ⟨_, rfl⟩
  have hgw : w.heap.size ≤ g := by omega
  rw [← hg] at hC hO hR hsz ⊢
  clear hg
  have c0 := hC.cell 0 _ rfl
  have c1 := hC.cell 1 _ rfl
  have c2 := hC.cell 2 _ rfl
  have c3 := hC.cell 3 _ rfl
  have c4 := hC.cell 4 _ rfl
  have c5 := hC.cell 5 _ rfl
  have q0 := hO.cell 0 _ rfl
  have q1 := hO.cell 1 _ rfl
  have q2 := hO.cell 2 _ rfl
  have hm1 := hm.no hx1
  go_wp2_with fail
  refine (gone_any w1 C h o.dot hm1.g.rd (by have := hs.g; omega) hok.g).mono ?_
  rintro e w2 ⟨rfl, hx2⟩
  have hm2 := hm1.no hx2
  have hC2 := hC.ext (by simp) hx2 (fun h => h)
  have hO2 := hO.ext (by simp) hx2 (fun h => h)
  have hR2 := hR.ext (by simp) hx2 (fun h => h)
  have hxx := hx1.comp hx2
  have hz2 := hx2.size
  clear c0 c1 c2 c3 c4 c5 q0 q1 q2 hC hO hR
  cases his : isAt (fun d => d) DotR.lt o.dot C.gone with
  | true =>
    have Hcl := Lib.hid (show addL C.gone C.elems o = C.elems by unfold addL; rw [if_pos his])
    clear his
    have c0 := hC2.cell 0 _ rfl
    have c1 := hC2.cell 1 _ rfl
    have c2 := hC2.cell 2 _ rfl
    have c3 := hC2.cell 3 _ rfl
    have c4 := hC2.cell 4 _ rfl
    have c5 := hC2.cell 5 _ rfl
    have z0 := hR2.cell 0 _ rfl
    have z1 := hR2.cell 1 _ rfl
    have z2 := hR2.cell 2 _ rfl
    have z3 := hR2.cell 3 _ rfl
    have z4 := hR2.cell 4 _ rfl
    have z5 := hR2.cell 5 _ rfl
    have f0 := hR2.fr 0
    have f1 := hR2.fr 1
    have f2 := hR2.fr 2
    have f3 := hR2.fr 3
    have f4 := hR2.fr 4
    have f5 := hR2.fr 5
    go_wp2_with fail
    have hbE := ((((((hR2.set 0 (.slice h.v C.v.length h.vc) (by simp)).set 1 (.slice h.r C.regs.length h.rc) (by simp)).set 2 (.slice h.e C.elems.length h.ec) (by simp)).set 3 (.slice h.g C.gone.length h.gc) (by simp)).set 4 (.slice h.s C.sums.length h.sc) (by simp)).set 5 (.slice h.b C.binds.length h.bc) (by simp))
    have hxE := (((((Ext.setCell (S := just (g + 1 + 1)) w2 ⟨g + 1 + 1, 0, none⟩ (.slice h.v C.v.length h.vc) rfl).comp (Ext.setCell _ ⟨g + 1 + 1, 1, none⟩ (.slice h.r C.regs.length h.rc) rfl)).comp (Ext.setCell _ ⟨g + 1 + 1, 2, none⟩ (.slice h.e C.elems.length h.ec) rfl)).comp (Ext.setCell _ ⟨g + 1 + 1, 3, none⟩ (.slice h.g C.gone.length h.gc) rfl)).comp (Ext.setCell _ ⟨g + 1 + 1, 4, none⟩ (.slice h.s C.sums.length h.sc) rfl)).comp (Ext.setCell _ ⟨g + 1 + 1, 5, none⟩ (.slice h.b C.binds.length h.bc) rfl)
    clear z0 f0 z1 f1 z2 f2 z3 f3 z4 f4 z5 f5
    generalize (((((w2.setCell ⟨g + 1 + 1, 0, none⟩ (.slice h.v C.v.length h.vc)).setCell ⟨g + 1 + 1, 1, none⟩ (.slice h.r C.regs.length h.rc)).setCell ⟨g + 1 + 1, 2, none⟩ (.slice h.e C.elems.length h.ec)).setCell ⟨g + 1 + 1, 3, none⟩ (.slice h.g C.gone.length h.gc)).setCell ⟨g + 1 + 1, 4, none⟩ (.slice h.s C.sums.length h.sc)).setCell ⟨g + 1 + 1, 5, none⟩ (.slice h.b C.binds.length h.bc) = wE at *
    have z0 := hbE.cell 0 _ rfl
    have z1 := hbE.cell 1 _ rfl
    have z2 := hbE.cell 2 _ rfl
    have z3 := hbE.cell 3 _ rfl
    have z4 := hbE.cell 4 _ rfl
    have z5 := hbE.cell 5 _ rfl
    refine bodyPost_ret (v := .agg #[.slice h.v C.v.length h.vc, .slice h.r C.regs.length h.rc, .slice h.e C.elems.length h.ec, .slice h.g C.gone.length h.gc, .slice h.s C.sums.length h.sc, .slice h.b C.binds.length h.bc]) ?_ rfl ?_
    · rw [res_cell1 rfl]
      go_simp
    rw [Hcl.out]
    refine ⟨h, ?_, ?_, ?_⟩
    · first | rfl | (simp [CollR.val, putAt_length]; done) | (simp [CollR.val]; done)
    · exact (hm2).ext hxE (fun i ad hi hj => hm.away (g := g + 1 + 1) (by omega) i ad hi hj)
    · exact (hxx.upN).comp (hxE.upJ (by omega))
  | false =>
    have hcl : addL C.gone C.elems o = putAt (posOf ElemR.k3 elemLt (Go.Esc.elemOf o).k3 C.elems) (Go.Esc.elemOf o) C.elems := by unfold addL; rw [if_neg (by rw [his]; simp)]
    have hple := posOf_le (κ := ElemR.k3) (lt := elemLt) (Go.Esc.elemOf o).k3 C.elems
    have hno : ∀ q, w.heap.size ≤ q → ¬ blk h.e q := by
      rintro q hq ⟨ad, ha, hb⟩
      have := (hm.e.base ad ha).2.1
      omega
    clear his
    have c2 := hC2.cell 2 _ rfl
    go_wp2_with fail
    refine (findElem_any w2 h.e h.ec C.elems 54 (g + 1) 0 (fun x => cmpE x.k3 (Go.Esc.elemOf o).k3) hm2.e.rd (by have := hs.e; omega) (fun _ _ => by kernel_rfl) (fun w3 x hx hx3 => add1_any w3 x o a c (g + 1) (hO2.ext (by simp) hx3 (fun h => h)))
      (posOf ElemR.k3 elemLt (Go.Esc.elemOf o).k3 C.elems) hple (fun j x hj => by rw [← less_iff elemOrd (Go.Esc.elemOf o).k3 C.elems hok.e j x hj]; exact cmpE_neg _ _)).mono ?_
    rintro e w3 ⟨rfl, hx3⟩
    generalize atCmp (fun x => cmpE x.k3 (Go.Esc.elemOf o).k3) C.elems (posOf ElemR.k3 elemLt (Go.Esc.elemOf o).k3 C.elems) = bq
    generalize hpp : posOf ElemR.k3 elemLt (Go.Esc.elemOf o).k3 C.elems = pp at *
    have Hcl := Lib.hid hcl
    clear hcl hpp c2
    have hm3 := hm2.no hx3
    have hC3 := hC2.ext (by simp) hx3 (fun h => h)
    have hO3 := hO2.ext (by simp) hx3 (fun h => h)
    have hR3 := hR2.ext (by simp) hx3 (fun h => h)
    have hxx3 := hxx.comp hx3
    have hz3 := hx3.size
    clear hC2 hO2 hR2
    have c2 := hC3.cell 2 _ rfl
    have q0 := hO3.cell 0 _ rfl
    have q1 := hO3.cell 1 _ rfl
    have q2 := hO3.cell 2 _ rfl
    have q4 := hO3.cell 4 _ rfl
    have q6 := hO3.cell 6 _ rfl
    have q7 := hO3.cell 7 _ rfl
    go_wp2_with fail
    have hxa := Ext.alloc no w3 (.cells #[.string (str o.key), .string (str o.text), .int .i64 o.ver, .int .i64 o.dot.dev, .int .i64 o.dot.ep, .int .i64 o.dot.seq] 61)
    have hmA := hm3.no hxa
    have hCA := hC3.ext (by simp) hxa (fun h => h)
    have hRA := hR3.ext (by simp) hxa (fun h => h)
    refine (insertElem_any _ B h.e h.ec C.elems pp (Go.Esc.elemOf o) w3.heap.size 1 (by simp; omega) hmA.e (by have := hs.e; omega) hple (whole_new _) (fun ad ha => by have := (hm3.e.base ad ha).2.1; omega)).mono ?_
    rintro e w4 ⟨a', c', rfl, hown4, hx4, hnr4⟩
    have hm4 := hmA.setE (l := putAt pp (Go.Esc.elemOf o) C.elems) (putAt_length _ _ _).symm hown4 hx4 hnr4
    have hC4 := hCA.ext (by simp) hx4 (hno _ (by omega))
    have hR4 := hRA.ext (by simp) hx4 (hno _ (by omega))
    have hx5 : Ext (upfrom B) w w4 := ((hxx3.comp hxa).upN).comp (hx4.upO hm.e)
    have haw := away_upd (h' := { h with e := a', ec := c' }) hm 2 (fun i hi => by rcases i with _ | _ | _ | _ | _ | _ | i <;> first | rfl | exact absurd rfl hi) hnr4 (g := g) (by omega) (by simp; omega)
    have haw2 := away_upd (h' := { h with e := a', ec := c' }) hm 2 (fun i hi => by rcases i with _ | _ | _ | _ | _ | _ | i <;> first | rfl | exact absurd rfl hi) hnr4 (g := g + 1 + 1) (by omega) (by simp; omega)
    clear c2 q0 q1 q2 q4 q6 q7 hC3 hO3 hR3 hCA hRA
    have u4 := hC4.cell 2 _ rfl
    have v4 := hC4.fr 2
    go_upto_region 6 with fail
    have hC5 := hC4.set 2 (.slice a' (C.elems.length + 1) c') (by simp)
    have hxs : Ext (just g) w4 (w4.setCell ⟨g, 2, none⟩ (.slice a' (C.elems.length + 1) c')) := Ext.setCell _ _ _ rfl
    have hR5 := hR4.ext (by simp) hxs (fun e => by have e : g + 1 + 1 = g := e; omega)
    have hm5 := hm4.ext hxs haw
    have hx6 := hx5.comp (hxs.upJ (by omega))
    clear u4 v4 hC4 hR4
    generalize w4.setCell ⟨g, 2, none⟩ (.slice a' (C.elems.length + 1) c') = w5 at *
    have c0 := hC5.cell 0 _ rfl
    have c1 := hC5.cell 1 _ rfl
    have c2 := hC5.cell 2 _ rfl
    have c3 := hC5.cell 3 _ rfl
    have c4 := hC5.cell 4 _ rfl
    have c5 := hC5.cell 5 _ rfl
    have z0 := hR5.cell 0 _ rfl
    have z1 := hR5.cell 1 _ rfl
    have z2 := hR5.cell 2 _ rfl
    have z3 := hR5.cell 3 _ rfl
    have z4 := hR5.cell 4 _ rfl
    have z5 := hR5.cell 5 _ rfl
    have f0 := hR5.fr 0
    have f1 := hR5.fr 1
    have f2 := hR5.fr 2
    have f3 := hR5.fr 3
    have f4 := hR5.fr 4
    have f5 := hR5.fr 5
    go_wp2_with fail
    have hbE := ((((((hR5.set 0 (.slice h.v C.v.length h.vc) (by simp)).set 1 (.slice h.r C.regs.length h.rc) (by simp)).set 2 (.slice a' (C.elems.length + 1) c') (by simp)).set 3 (.slice h.g C.gone.length h.gc) (by simp)).set 4 (.slice h.s C.sums.length h.sc) (by simp)).set 5 (.slice h.b C.binds.length h.bc) (by simp))
    have hxE := (((((Ext.setCell (S := just (g + 1 + 1)) w5 ⟨g + 1 + 1, 0, none⟩ (.slice h.v C.v.length h.vc) rfl).comp (Ext.setCell _ ⟨g + 1 + 1, 1, none⟩ (.slice h.r C.regs.length h.rc) rfl)).comp (Ext.setCell _ ⟨g + 1 + 1, 2, none⟩ (.slice a' (C.elems.length + 1) c') rfl)).comp (Ext.setCell _ ⟨g + 1 + 1, 3, none⟩ (.slice h.g C.gone.length h.gc) rfl)).comp (Ext.setCell _ ⟨g + 1 + 1, 4, none⟩ (.slice h.s C.sums.length h.sc) rfl)).comp (Ext.setCell _ ⟨g + 1 + 1, 5, none⟩ (.slice h.b C.binds.length h.bc) rfl)
    clear z0 f0 z1 f1 z2 f2 z3 f3 z4 f4 z5 f5
    generalize (((((w5.setCell ⟨g + 1 + 1, 0, none⟩ (.slice h.v C.v.length h.vc)).setCell ⟨g + 1 + 1, 1, none⟩ (.slice h.r C.regs.length h.rc)).setCell ⟨g + 1 + 1, 2, none⟩ (.slice a' (C.elems.length + 1) c')).setCell ⟨g + 1 + 1, 3, none⟩ (.slice h.g C.gone.length h.gc)).setCell ⟨g + 1 + 1, 4, none⟩ (.slice h.s C.sums.length h.sc)).setCell ⟨g + 1 + 1, 5, none⟩ (.slice h.b C.binds.length h.bc) = wE at *
    have z0 := hbE.cell 0 _ rfl
    have z1 := hbE.cell 1 _ rfl
    have z2 := hbE.cell 2 _ rfl
    have z3 := hbE.cell 3 _ rfl
    have z4 := hbE.cell 4 _ rfl
    have z5 := hbE.cell 5 _ rfl
    refine bodyPost_ret (v := .agg #[.slice h.v C.v.length h.vc, .slice h.r C.regs.length h.rc, .slice a' (C.elems.length + 1) c', .slice h.g C.gone.length h.gc, .slice h.s C.sums.length h.sc, .slice h.b C.binds.length h.bc]) ?_ rfl ?_
    · rw [res_cell1 rfl]
      go_simp
    rw [Hcl.out]
    refine ⟨{ h with e := a', ec := c' }, ?_, ?_, ?_⟩
    · first | rfl | (simp [CollR.val, putAt_length]; done) | (simp [CollR.val]; done)
    · exact (hm5).ext hxE (fun i ad hi hj => haw2 i ad hi hj)
    · exact (hx6).comp (hxE.upJ (by omega))
theorem lessL_filter (E : List ElemR) (d : DotR) : E.filter (fun x => !(x.dot.eqv d)) = lessL E d := by
  unfold lessL
  apply List.filter_congr
  intro x _
  rw [Bool.eq_iff_iff]
  have := DotR.eqv_iff x.dot d
  cases q : x.dot.eqv d with
  | true => rw [q] at this; simp [this.1 rfl]
  | false => rw [q] at this; simp; exact fun e => by simpa using this.2 e
theorem goneL_ord {G : List DotR} (h : InOrd (fun d => d) DotR.lt G) (d : DotR) : InOrd (fun d => d) DotR.lt (goneL G d) := by
  unfold goneL
  split
  · exact h
  · exact h.putAt dotOrd
theorem remL_step (l : List DotR) (i : Nat) (d : DotR) (h : l[i]? = some d) (G : List DotR) (E : List ElemR) : remL (l.drop i) (G, E) = remL (l.drop (i + 1)) (goneL G d, lessL E d) := by
  have hi := (List.getElem?_eq_some_iff.1 h).1
  have e : l[i] = d := (List.getElem?_eq_some_iff.1 h).2
  rw [List.drop_eq_getElem_cons hi, e]
  rfl
set_option maxRecDepth 100000 in
set_option maxHeartbeats 4000000 in
theorem remove_any (w : World) (B : Nat) (C : CollR) (h : Six) (o : OpR) (a : Option Addr) (c : Nat) (hm : Mine C w B h) (hB : B ≤ w.heap.size) (hs : C.small 1099511627700) (hok : C.ok) (hr0 : Rd w a (ds o.dots)) (hab : 0 < o.dots.length → ∀ ad, a = some ad → ad.block < B) (h8 : o.dots.length ≤ 8) :
    Calls Tryz.prog 25 #[C.val h, o.v a c] w fun e w' => ∃ h', e = .returned (({ C with gone := (remL o.dots (C.gone, C.elems)).1, elems := (remL o.dots (C.gone, C.elems)).2 } : CollR).val h') ∧ Mine { C with gone := (remL o.dots (C.gone, C.elems)).1, elems := (remL o.dots (C.gone, C.elems)).2 } w' B h' ∧ Ext (upfrom B) w w' := by
  have hmf : ∀ (fn : Fn) (first cap : Array Value) (w : World), (Instr.makeFunc fn first cap).run Tryz.prog w = .ok (.func fn first cap) w := fun _ _ _ _ => rfl
  have hr : Rd w a (rows DotR.cells o.dots) := hr0
  clear hr0
  go_enter Tryz.func25, Tryz.ntmps25
  unfold CollR.val OpR.v
  go_upto_region 1 with fail
  have hC_ := Blk.at (w) #[.slice h.v C.v.length h.vc, .slice h.r C.regs.length h.rc, .slice h.e C.elems.length h.ec, .slice h.g C.gone.length h.gc, .slice h.s C.sums.length h.sc, .slice h.b C.binds.length h.bc] 32 (w.heap.size) (by simp)
  have hx_0 := Ext.alloc no (w) (.cells #[.slice h.v C.v.length h.vc, .slice h.r C.regs.length h.rc, .slice h.e C.elems.length h.ec, .slice h.g C.gone.length h.gc, .slice h.s C.sums.length h.sc, .slice h.b C.binds.length h.bc] 32)
  have hO_ := Blk.at (w.alloc (.cells #[.slice h.v C.v.length h.vc, .slice h.r C.regs.length h.rc, .slice h.e C.elems.length h.ec, .slice h.g C.gone.length h.gc, .slice h.s C.sums.length h.sc, .slice h.b C.binds.length h.bc] 32)) #[.int .i64 o.dot.dev, .int .i64 o.dot.ep, .int .i64 o.dot.seq, .int .i64 o.coll, .int .i64 o.ver, .int .i64 o.kind, .string (str o.key), .string (str o.text), .int .i64 o.n, .int .i64 o.time, .slice a o.dots.length c] 51 (w.heap.size + 1) (by simp)
  have hx_1 := Ext.alloc no (w.alloc (.cells #[.slice h.v C.v.length h.vc, .slice h.r C.regs.length h.rc, .slice h.e C.elems.length h.ec, .slice h.g C.gone.length h.gc, .slice h.s C.sums.length h.sc, .slice h.b C.binds.length h.bc] 32)) (.cells #[.int .i64 o.dot.dev, .int .i64 o.dot.ep, .int .i64 o.dot.seq, .int .i64 o.coll, .int .i64 o.ver, .int .i64 o.kind, .string (str o.key), .string (str o.text), .int .i64 o.n, .int .i64 o.time, .slice a o.dots.length c] 51)
  have hR_ := Blk.at ((w.alloc (.cells #[.slice h.v C.v.length h.vc, .slice h.r C.regs.length h.rc, .slice h.e C.elems.length h.ec, .slice h.g C.gone.length h.gc, .slice h.s C.sums.length h.sc, .slice h.b C.binds.length h.bc] 32)).alloc (.cells #[.int .i64 o.dot.dev, .int .i64 o.dot.ep, .int .i64 o.dot.seq, .int .i64 o.coll, .int .i64 o.ver, .int .i64 o.kind, .string (str o.key), .string (str o.text), .int .i64 o.n, .int .i64 o.time, .slice a o.dots.length c] 51)) #[.slice none 0 0, .slice none 0 0, .slice none 0 0, .slice none 0 0, .slice none 0 0, .slice none 0 0] 32 (w.heap.size + 1 + 1) (by simp)
  have hx_2 := Ext.alloc no ((w.alloc (.cells #[.slice h.v C.v.length h.vc, .slice h.r C.regs.length h.rc, .slice h.e C.elems.length h.ec, .slice h.g C.gone.length h.gc, .slice h.s C.sums.length h.sc, .slice h.b C.binds.length h.bc] 32)).alloc (.cells #[.int .i64 o.dot.dev, .int .i64 o.dot.ep, .int .i64 o.dot.seq, .int .i64 o.coll, .int .i64 o.ver, .int .i64 o.kind, .string (str o.key), .string (str o.text), .int .i64 o.n, .int .i64 o.time, .slice a o.dots.length c] 51)) (.cells #[.slice none 0 0, .slice none 0 0, .slice none 0 0, .slice none 0 0, .slice none 0 0, .slice none 0 0] 32)
  have hC := (hC_.ext (by simp) hx_1 (fun h => h)).ext (by simp) hx_2 (fun h => h)
  have hO := hO_.ext (by simp) hx_2 (fun h => h)
  have hR := hR_
  have hx1 := ((hx_0).comp hx_1).comp hx_2
  clear hC_ hx_0 hO_ hx_1 hR_ hx_2
  generalize ((w.alloc (.cells #[.slice h.v C.v.length h.vc, .slice h.r C.regs.length h.rc, .slice h.e C.elems.length h.ec, .slice h.g C.gone.length h.gc, .slice h.s C.sums.length h.sc, .slice h.b C.binds.length h.bc] 32)).alloc (.cells #[.int .i64 o.dot.dev, .int .i64 o.dot.ep, .int .i64 o.dot.seq, .int .i64 o.coll, .int .i64 o.ver, .int .i64 o.kind, .string (str o.key), .string (str o.text), .int .i64 o.n, .int .i64 o.time, .slice a o.dots.length c] 51)).alloc (.cells #[.slice none 0 0, .slice none 0 0, .slice none 0 0, .slice none 0 0, .slice none 0 0, .slice none 0 0] 32) = w1 at *
  have hsz := hR.lt (by simp)
  obtain ⟨g, hg⟩ : ∃ g, g = w.heap.size := ⟨_, rfl⟩
  have hgw : w.heap.size ≤ g := by omega
  rw [← hg] at hC hO hR hsz ⊢
  clear hg
  have q10 := hO.cell 10 _ rfl
  have hm1 := hm.no hx1
  have hsg := hs.g
  have hse := hs.e
  have haw0 := hm.away (g := g) (by omega)
  have haw1 := hm.away (g := g + 1 + 1) (by omega)
  go_wp2_with fail
  clear q10
  go_loopw [12] (fun s12 wr => ∃ (i : Nat) (G : List DotR) (E : List ElemR) (k : Six), i ≤ o.dots.length ∧ s12 = .int .i64 i ∧ remL (o.dots.drop i) (G, E) = remL o.dots (C.gone, C.elems) ∧ InOrd (fun d => d) DotR.lt G ∧ G.length ≤ C.gone.length + i ∧ E.length ≤ C.elems.length ∧ Mine { C with gone := G, elems := E } wr B k ∧ Blk wr g [.slice k.v C.v.length k.vc, .slice k.r C.regs.length k.rc, .slice k.e E.length k.ec, .slice k.g G.length k.gc, .slice k.s C.sums.length k.sc, .slice k.b C.binds.length k.bc] ∧ Blk wr (g + 1 + 1) [.slice none 0 0, .slice none 0 0, .slice none 0 0, .slice none 0 0, .slice none 0 0, .slice none 0 0] ∧ (∀ i ad, k.at i = some ad → ad.block ≠ g ∧ ad.block ≠ g + 1 + 1) ∧ Ext (upfrom B) w wr ∧ g + 1 + 1 < wr.heap.size) (fun s12 _ => o.dots.length - (intOf s12).toNat)
  case atStart => exact ⟨0, C.gone, C.elems, h, Nat.zero_le _, rfl, rfl, hok.g, by omega, by omega, hm1, hC, hR, fun i ad hi => ⟨haw0 i ad hi, haw1 i ad hi⟩, hx1.upN, by omega⟩
  case round =>
    obtain ⟨i, G, E, k, hi, rfl, hrem, hord, hlg, hle, hmr, hCr, hRr, haw, hx, hszr⟩ := hrel
    have Hrem := Lib.hid hrem
    clear hrem
    by_cases hin : i < o.dots.length
    · have d1 : decide (i < o.dots.length) = true := decT hin
      obtain ⟨d, hd⟩ : ∃ d, o.dots[i]? = some d := ⟨_, List.getElem?_eq_getElem hin⟩
      obtain ⟨b, off, rfl, _⟩ := rows_shape kDot (by omega) hr (by omega)
      have hrr : Rd wr (some ⟨b, off, none⟩) (rows DotR.cells o.dots) := hr.ext hx (fun ad ha e => by have := hab (by omega) ad ha; have e : B ≤ ad.block := e; omega)
      have q0 : wr.cell? ⟨b, off + i * 3, none⟩ = some (.int .i64 d.dev) := rows_cell kDot hrr hd 0 _ rfl
      have q1 : wr.cell? ⟨b, off + i * 3 + 1, none⟩ = some (.int .i64 d.ep) := rows_cell kDot hrr hd 1 _ rfl
      have q2 : wr.cell? ⟨b, off + i * 3 + 2, none⟩ = some (.int .i64 d.seq) := rows_cell kDot hrr hd 2 _ rfl
      have hst := remL_step o.dots i d hd G E
      rw [Hrem.out] at hst
      have Hst := Lib.hid hst
      clear hst
      have c0 := hCr.cell 0 _ rfl
      have c1 := hCr.cell 1 _ rfl
      have c2 := hCr.cell 2 _ rfl
      have c3 := hCr.cell 3 _ rfl
      have c4 := hCr.cell 4 _ rfl
      have c5 := hCr.cell 5 _ rfl
      go_upto_region 4 with fail
      have hD0 := Blk.lit wr #[.int .i64 d.dev, .int .i64 d.ep, .int .i64 d.seq] 39
      have hxa := Ext.alloc no wr (.cells #[.int .i64 d.dev, .int .i64 d.ep, .int .i64 d.seq] 39)
      have hmA := hmr.no hxa
      have hCA := hCr.ext (by simp) hxa (fun h => h)
      have hRA := hRr.ext (by simp) hxa (fun h => h)
      have hszA := hD0.lt (by simp)
      obtain ⟨gd, hgd⟩ : ∃ gd, gd = wr.heap.size := ⟨_, rfl⟩
      rw [← hgd] at hD0 hszA hszr ⊢
      have hxA := hx.comp hxa.upN
      have hgw2 : w.heap.size ≤ gd := by have := hx.size; omega
      have hawd : ∀ i ad, k.at i = some ad → ad.block < gd := fun i ad hi => by have := (hmr.base i ad hi).2; omega
      clear c0 c1 c2 c3 c4 c5 q0 q1 q2 hCr hRr hmr hrr hx
      generalize wr.alloc (.cells #[.int .i64 d.dev, .int .i64 d.ep, .int .i64 d.seq] 39) = wa at *
      clear hgd hxa wr
      have c0 := hCA.cell 0 _ rfl
      have c1 := hCA.cell 1 _ rfl
      have c2 := hCA.cell 2 _ rfl
      have c3 := hCA.cell 3 _ rfl
      have c4 := hCA.cell 4 _ rfl
      have c5 := hCA.cell 5 _ rfl
      have q0 := hD0.cell 0 _ rfl
      have q1 := hD0.cell 1 _ rfl
      have q2 := hD0.cell 2 _ rfl
      go_wp2_with fail
      refine (gone_any wa ({ C with gone := G, elems := E } : CollR) k d hmA.g.rd (by simp only; omega) hord).mono ?_
      rintro e w2 ⟨rfl, hx2⟩
      have hm2 := hmA.no hx2
      have hC2 := hCA.ext (by simp) hx2 (fun h => h)
      have hR2 := hRA.ext (by simp) hx2 (fun h => h)
      have hD2 := hD0.ext (by simp) hx2 (fun h => h)
      have hxx := hxA.comp hx2.upN
      have hz2 := hx2.size
      have hgo := goneL_ord hord d
      have hgl := goneL_len G d
      have hll : (lessL E d).length ≤ E.length := List.length_filter_le _ _
      clear c0 c1 c2 c3 c4 c5 q0 q1 q2 hCA hRA hD0 hmA hxA
      have HL := Lib.hid (lessL_filter E d)
      cases his : isAt (fun d => d) DotR.lt d G with
      | true =>
        have hG : goneL G d = G := by unfold goneL; rw [if_pos his]
        rw [hG] at hgo hgl Hst
        clear his hG
        go_upto_region 7 with fail
        have c2 := hC2.cell 2 _ rfl
        have p0 : w2.cell? ⟨gd, 0, none⟩ = some (.int .i64 d.dev) := hD2.cell 0 _ rfl
        have p1 : w2.cell? ⟨gd, 0 + 1, none⟩ = some (.int .i64 d.ep) := hD2.cell 1 _ rfl
        have p2 : w2.cell? ⟨gd, 0 + 2, none⟩ = some (.int .i64 d.seq) := hD2.cell 2 _ rfl
        have hned : ¬ blk k.e gd := by
          rintro ⟨ad, ha, hb⟩
          have := hawd 2 ad ha
          omega
        go_wp2_with fail
        refine (deleteFunc_any w2 B k.e k.ec E 60 gd 0 (fun x => x.dot.eqv d) (by omega) hm2.e (by omega) (fun _ _ => by kernel_rfl) (fun w' x hx' hxx' => remove1_any w' x d gd 0 (hxx'.keeps p0 hned) (hxx'.keeps p1 hned) (hxx'.keeps p2 hned))).mono ?_
        rintro e w7 ⟨rfl, hown7, hx7⟩
        rw [HL.out] at hown7 ⊢
        have hm7 := hm2.setE (l := lessL E d) rfl hown7 hx7 (near_self _ _)
        have hne : ∀ q, q = g ∨ q = g + 1 + 1 → ¬ blk k.e q := by
          rintro q hq ⟨ad, ha, hb⟩
          have := haw 2 ad ha
          omega
        have hC7 := hC2.ext (by simp) hx7 (hne _ (.inl rfl))
        have hR7 := hR2.ext (by simp) hx7 (hne _ (.inr rfl))
        have hxx7 := hxx.comp (hx7.upO hm2.e)
        have hz7 := hx7.size
        clear c2 p0 p1 p2 hown7
        have u7 := hC7.cell 2 _ rfl
        have v7 := hC7.fr 2
        go_wp2_with fail
        have hC8 := hC7.set 2 (.slice k.e (lessL E d).length k.ec) (by simp)
        have hxs : Ext (just g) w7 (w7.setCell ⟨g, 2, none⟩ (.slice k.e (lessL E d).length k.ec)) := Ext.setCell _ _ _ rfl
        have hR8 := hR7.ext (by simp) hxs (fun e => by have e : g + 1 + 1 = g := e; omega)
        have hz8 := hxs.size
        have hm8 := hm7.ext hxs (fun i ad hi => fun e => (haw i ad hi).1 e)
        have hx8 := hxx7.comp (hxs.upJ (by omega))
        go_roundw
        case rel => exact ⟨i + 1, G, lessL E d, { k with e := k.e, ec := k.ec }, by omega, by go_num, Hst.out.symm, hgo, by omega, by omega, hm8, hC8, hR8, haw, hx8, by omega⟩
        case measure => simp [intOf]; omega
      | false =>
        have hG : goneL G d = putAt (posOf (fun d => d) DotR.lt d G) d G := by unfold goneL; rw [if_neg (by rw [his]; simp)]
        have hple := posOf_le (κ := fun d => d) (lt := DotR.lt) d G
        rw [hG] at hgo hgl Hst
        clear his hG
        generalize posOf (fun d => d) DotR.lt d G = pp at *
        have c3 := hC2.cell 3 _ rfl
        have q0 := hD2.cell 0 _ rfl
        have q1 := hD2.cell 1 _ rfl
        have q2 := hD2.cell 2 _ rfl
        go_wp2_with fail
        have hxb := Ext.alloc no w2 (.cells #[.int .i64 d.dev, .int .i64 d.ep, .int .i64 d.seq] 39)
        have hmB := hm2.no hxb
        have hCB := hC2.ext (by simp) hxb (fun h => h)
        have hRB := hR2.ext (by simp) hxb (fun h => h)
        have hDB := hD2.ext (by simp) hxb (fun h => h)
        refine (insertDot_any _ B k.g k.gc G pp d w2.heap.size 1 (by simp; omega) hmB.g (by omega) hple (whole_new _) (fun ad ha => by have := (hm2.g.base ad ha).2.1; omega)).mono ?_
        rintro e w4 ⟨a', c', rfl, hown4, hx4, hnr4⟩
        have hm4 := hmB.setG (l := putAt pp d G) (putAt_length _ _ _).symm hown4 hx4 hnr4
        have hne : ∀ q, q = g ∨ q = g + 1 + 1 ∨ q = gd → ¬ blk k.g q := by
          rintro q hq ⟨ad, ha, hb⟩
          have := haw 3 ad ha
          have := hawd 3 ad ha
          omega
        have hC4 := hCB.ext (by simp) hx4 (hne _ (.inl rfl))
        have hR4 := hRB.ext (by simp) hx4 (hne _ (.inr (.inl rfl)))
        have hD4 := hDB.ext (by simp) hx4 (hne _ (.inr (.inr rfl)))
        have hx5 := (hxx.comp hxb.upN).comp (hx4.upO hmB.g)
        have hz4 := hx4.size
        rw [World.size_alloc] at hz4
        have haw4 : ∀ i ad, ({ k with g := a', gc := c' } : Six).at i = some ad → ad.block ≠ g ∧ ad.block ≠ g + 1 + 1 := by
          intro i ad hi
          by_cases e : i = 3
          · subst e
            rcases hnr4 ad hi with ⟨x, hx, hb⟩ | hb
            · have := haw 3 x hx; rw [← hb]; exact this
            · rw [World.size_alloc] at hb; omega
          · exact haw i ad (by rcases i with _ | _ | _ | _ | _ | _ | i <;> first | exact hi | exact absurd rfl e)
        clear c3 q0 q1 q2 hC2 hR2 hD2 hCB hRB hDB hm2
        have u4 := hC4.cell 3 _ rfl
        have v4 := hC4.fr 3
        go_upto_region 7 with fail
        have hC5 := hC4.set 3 (.slice a' (G.length + 1) c') (by simp)
        have hxs5 : Ext (just g) w4 (w4.setCell ⟨g, 3, none⟩ (.slice a' (G.length + 1) c')) := Ext.setCell _ _ _ rfl
        have hR5 := hR4.ext (by simp) hxs5 (fun e => by have e : g + 1 + 1 = g := e; omega)
        have hD5 := hD4.ext (by simp) hxs5 (fun e => by have e : gd = g := e; omega)
        have hm5 := hm4.ext hxs5 (fun i ad hi => fun e => (haw4 i ad hi).1 e)
        have hx6 := hx5.comp (hxs5.upJ (by omega))
        have hz5 := hxs5.size
        clear u4 v4 hC4 hR4 hD4
        generalize w4.setCell ⟨g, 3, none⟩ (.slice a' (G.length + 1) c') = w5 at *
        have c2 := hC5.cell 2 _ rfl
        have p0 : w5.cell? ⟨gd, 0, none⟩ = some (.int .i64 d.dev) := hD5.cell 0 _ rfl
        have p1 : w5.cell? ⟨gd, 0 + 1, none⟩ = some (.int .i64 d.ep) := hD5.cell 1 _ rfl
        have p2 : w5.cell? ⟨gd, 0 + 2, none⟩ = some (.int .i64 d.seq) := hD5.cell 2 _ rfl
        have hned : ¬ blk k.e gd := by
          rintro ⟨ad, ha, hb⟩
          have := hawd 2 ad ha
          omega
        go_wp2_with fail
        refine (deleteFunc_any w5 B k.e k.ec E 60 gd 0 (fun x => x.dot.eqv d) (by omega) hm5.e (by omega) (fun _ _ => by kernel_rfl) (fun w' x hx' hxx' => remove1_any w' x d gd 0 (hxx'.keeps p0 hned) (hxx'.keeps p1 hned) (hxx'.keeps p2 hned))).mono ?_
        rintro e w7 ⟨rfl, hown7, hx7⟩
        rw [HL.out] at hown7 ⊢
        have hm7 := hm5.setE (l := lessL E d) rfl hown7 hx7 (near_self _ _)
        have hne : ∀ q, q = g ∨ q = g + 1 + 1 → ¬ blk k.e q := by
          rintro q hq ⟨ad, ha, hb⟩
          have := haw 2 ad ha
          omega
        have hC7 := hC5.ext (by simp) hx7 (hne _ (.inl rfl))
        have hR7 := hR5.ext (by simp) hx7 (hne _ (.inr rfl))
        have hxx7 := hx6.comp (hx7.upO hm5.e)
        have hz7 := hx7.size
        clear c2 p0 p1 p2 hown7
        have u7 := hC7.cell 2 _ rfl
        have v7 := hC7.fr 2
        go_wp2_with fail
        have hC8 := hC7.set 2 (.slice k.e (lessL E d).length k.ec) (by simp)
        have hxs : Ext (just g) w7 (w7.setCell ⟨g, 2, none⟩ (.slice k.e (lessL E d).length k.ec)) := Ext.setCell _ _ _ rfl
        have hR8 := hR7.ext (by simp) hxs (fun e => by have e : g + 1 + 1 = g := e; omega)
        have hz8 := hxs.size
        have hm8 := hm7.ext hxs (fun i ad hi => fun e => (haw4 i ad hi).1 e)
        have hx8 := hxx7.comp (hxs.upJ (by omega))
        go_roundw
        case rel => exact ⟨i + 1, (putAt pp d G), lessL E d, { k with g := a', gc := c', e := k.e, ec := k.ec }, by omega, by go_num, Hst.out.symm, hgo, by omega, by omega, hm8, by rw [putAt_length]; exact hC8, hR8, haw4, hx8, by omega⟩
        case measure => simp [intOf]; omega
    · obtain rfl : i = o.dots.length := by omega
      have d1 : decide (o.dots.length < o.dots.length) = false := decF (by omega)
      rw [List.drop_length] at Hrem
      have Hrem2 := Lib.hid (show remL o.dots (C.gone, C.elems) = (G, E) from Hrem.out.symm)
      clear Hrem
      go_upto_region 9 with fail
      have c0 := hCr.cell 0 _ rfl
      have c1 := hCr.cell 1 _ rfl
      have c2 := hCr.cell 2 _ rfl
      have c3 := hCr.cell 3 _ rfl
      have c4 := hCr.cell 4 _ rfl
      have c5 := hCr.cell 5 _ rfl
      have z0 := hRr.cell 0 _ rfl
      have z1 := hRr.cell 1 _ rfl
      have z2 := hRr.cell 2 _ rfl
      have z3 := hRr.cell 3 _ rfl
      have z4 := hRr.cell 4 _ rfl
      have z5 := hRr.cell 5 _ rfl
      have f0 := hRr.fr 0
      have f1 := hRr.fr 1
      have f2 := hRr.fr 2
      have f3 := hRr.fr 3
      have f4 := hRr.fr 4
      have f5 := hRr.fr 5
      go_wp2_with fail
      have hbE := ((((((hRr.set 0 (.slice k.v C.v.length k.vc) (by simp)).set 1 (.slice k.r C.regs.length k.rc) (by simp)).set 2 (.slice k.e E.length k.ec) (by simp)).set 3 (.slice k.g G.length k.gc) (by simp)).set 4 (.slice k.s C.sums.length k.sc) (by simp)).set 5 (.slice k.b C.binds.length k.bc) (by simp))
      have hxE := (((((Ext.setCell (S := just (g + 1 + 1)) wr ⟨g + 1 + 1, 0, none⟩ (.slice k.v C.v.length k.vc) rfl).comp (Ext.setCell _ ⟨g + 1 + 1, 1, none⟩ (.slice k.r C.regs.length k.rc) rfl)).comp (Ext.setCell _ ⟨g + 1 + 1, 2, none⟩ (.slice k.e E.length k.ec) rfl)).comp (Ext.setCell _ ⟨g + 1 + 1, 3, none⟩ (.slice k.g G.length k.gc) rfl)).comp (Ext.setCell _ ⟨g + 1 + 1, 4, none⟩ (.slice k.s C.sums.length k.sc) rfl)).comp (Ext.setCell _ ⟨g + 1 + 1, 5, none⟩ (.slice k.b C.binds.length k.bc) rfl)
      clear z0 f0 z1 f1 z2 f2 z3 f3 z4 f4 z5 f5
      generalize (((((wr.setCell ⟨g + 1 + 1, 0, none⟩ (.slice k.v C.v.length k.vc)).setCell ⟨g + 1 + 1, 1, none⟩ (.slice k.r C.regs.length k.rc)).setCell ⟨g + 1 + 1, 2, none⟩ (.slice k.e E.length k.ec)).setCell ⟨g + 1 + 1, 3, none⟩ (.slice k.g G.length k.gc)).setCell ⟨g + 1 + 1, 4, none⟩ (.slice k.s C.sums.length k.sc)).setCell ⟨g + 1 + 1, 5, none⟩ (.slice k.b C.binds.length k.bc) = wE at *
      have z0 := hbE.cell 0 _ rfl
      have z1 := hbE.cell 1 _ rfl
      have z2 := hbE.cell 2 _ rfl
      have z3 := hbE.cell 3 _ rfl
      have z4 := hbE.cell 4 _ rfl
      have z5 := hbE.cell 5 _ rfl
      refine bodyPost_ret (v := .agg #[.slice k.v C.v.length k.vc, .slice k.r C.regs.length k.rc, .slice k.e E.length k.ec, .slice k.g G.length k.gc, .slice k.s C.sums.length k.sc, .slice k.b C.binds.length k.bc]) ?_ rfl ?_
      · rw [res_cell1 rfl]
        go_simp
      rw [Hrem2.out]
      refine ⟨k, ?_, ?_, ?_⟩
      · first | rfl | (simp [CollR.val, putAt_length]; done) | (simp [CollR.val]; done)
      · exact (hmr).ext hxE (fun i ad hi hj => (fun i ad hi => (haw i ad hi).2) i ad hi hj)
      · exact (hx).comp (hxE.upJ (by omega))
end Go.Proofs.YtejmmkjpncpedaaGreat
