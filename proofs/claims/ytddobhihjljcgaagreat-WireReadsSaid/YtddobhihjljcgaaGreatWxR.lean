/- The reference's Bytes: of a message that may be. -/
import Derived.Test.YtddobhihjljcgaaGreatWxL
import Derived.Test.YtddobhihjljcgaaGreatWxN
import Derived.Test.YtddobhihjljcgaaGreatWxO
namespace Go.Esc
open Go.RowKit
theorem own_app {W W' : World} {B c c' : Nat} {a a' : Option Addr} {E X : List UInt8} (_ho : Own W B a 1 E.length c (bs E)) (h : App W W' B 1 a E.length c (bs E) a' c' X.length (bs X)) :
  ∃ F : List UInt8, F = E ++ X ∧ E.length + X.length = F.length ∧ Own W' B a' 1 F.length c' (bs F) :=
 ⟨E ++ X, rfl, by rw [List.length_append], by rw [bs_append, List.length_append]; exact h.own⟩
end Go.Esc
namespace Go.Proofs.YtddobhihjljcgaaGreat
open Go.RowKit Go.Esc
set_option linter.unusedVariables false
set_option linter.unusedSimpArgs false
def RBytesEnd (w : World) (m : MsgR) (e : Ending) (w' : World) : Prop := ∃ a c, e = .returned (.tuple #[.slice a (bytesOf m).length c, .int .i64 0]) ∧ Own w' w.heap.size a 1 (bytesOf m).length c (bs (bytesOf m)) ∧ Ext no w w'
set_option maxRecDepth 100000 in
set_option maxHeartbeats 8000000 in
theorem refbytes_1 (w : World) (m : MsgR) (h : MsgA) (hin : m.In w h) (hn : m.nice) (hk : m.kind = 1) :
  Calls Tryz.prog 6 #[m.val h] w (RBytesEnd w m) := by
 have HB := Lib.hid (show bytesOf m = frame (bodyEnc m) by unfold bytesOf; rw [if_pos hn.bytes])
 have hbl := bodyEnc_le hn.ok hn.few
 have HM := Lib.hid (show manyM m = false by
  have := hn.bytes
  unfold bytesErr at this
  rw [if_neg (by omega)] at this
  split at this
  ·omega
  ·split at this
   ·omega
   ·rename_i e; cases hb : manyM m with
    | true => exact absurd hb e
    | false => rfl)
 have hok := hn.ok
 have hfew := hn.few
 have hsb := hn.sb
 have hNI := Lib.hid hn
 clear hn
 go_enter Tryz.func6, Tryz.ntmps6
 go_upto_region 0 with fail
 refine wp_region_lit ?_
 refine wp_box_rmsg (m := m) (h := h) rfl rfl (by rfl) (fun hC => ?_)
 simp only [pz]
 have hx := Ext.alloc no w (.cells (m.cells h).toArray 42)
 have hgs : w.heap.size + 1 = (w.alloc (.cells (m.cells h).toArray 42)).heap.size := by simp
 generalize w.alloc (.cells (m.cells h).toArray 42) = w1 at *
 obtain ⟨g, hg⟩ : ∃ v, v = w.heap.size := ⟨_, rfl⟩
 rw [← hg] at hC hgs ⊢
 have hwg : w.heap.size ≤ g + 1 := by omega
 have hgw : w.heap.size ≤ g := by omega
 have hB1 : g + 1 ≤ w1.heap.size := by omega
 clear hg hgs
 have z0 : w1.cell? ⟨g, 0, none⟩ = some (.int .i64 1) := by have q := hC.cell 0 _ rfl; rwa [hk] at q
 have z6 := hC.cell 6 _ rfl
 rw [hsb] at z6
 go_upto_region 5 with fail
 refine wp_region_lit ?_
 refine wp_load_rmsg (m := m) (h := h) rfl rfl (by rfl) hC ?_
 simp only [pz]
 go_wp2_with fail
 refine (refmany_any w1 m h).mono ?_
 rintro e w2 ⟨rfl, hy⟩
 rw [HM.out]
 have hC := hC.ext (msg_ne _ _) hy (fun h => h)
 have hB2 := Nat.le_trans hB1 hy.size
 replace hx := hx.comp hy
 clear hy z0 z6 hB1
 have z0 : w2.cell? ⟨g, 0, none⟩ = some (.int .i64 1) := by have q := hC.cell 0 _ rfl; rwa [hk] at q
 have z1 := hC.cell 1 _ rfl
 go_wp2_with fail
 refine (xnums_any _ (g + 1) none (some ⟨w2.heap.size, 0, none⟩) 0 2 0 [] [1, m.dev] (Own.nil _ _ _) (by simp; omega) (by omega) (Rd.lit w2 _ _ _) (fun _ ad _ => by rintro ⟨ad', ha', he⟩; cases ha') (by simp) (by intro n hn; simp at hn; rcases hn with rfl | rfl; unfold I64ok; omega; exact hok.dev)).mono ?_
 rintro e w3 ⟨a3, c3, rfl, hA⟩
 have hA := App.pre (Ext.alloc no w2 _) hA
 obtain ⟨E, hE⟩ : ∃ E, E = [1, m.dev].flatMap encI := ⟨_, rfl⟩
 rw [← hE] at hA ⊢
 have hEl : E.length ≤ 20 := by rw [hE]; exact encs_le (l := [1, m.dev]) (by intro n hn; simp at hn; rcases hn with rfl | rfl; unfold I64ok; omega; exact hok.dev)
 have HE := Lib.hid (show E = encs [m.kind, m.dev] by rw [hE, hk]; rfl)
 have hO := hA.own
 rw [Nat.zero_add, List.nil_append] at hO
 rw [Nat.zero_add]
 have hy := hA.ext
 have hC := hC.ext (msg_ne _ _) hy (fun e => by obtain ⟨ad, ha, _⟩ := e; cases ha)
 replace hx : Ext no w w3 := hx.comp (hy.mono (fun k _ e => by obtain ⟨ad, ha, _⟩ := e; cases ha))
 have hB3 := Nat.le_trans hB2 hy.size
 clear hE hA hy z0 z1 hB2
 have z0 : w3.cell? ⟨g, 0, none⟩ = some (.int .i64 1) := by have q := hC.cell 0 _ rfl; rwa [hk] at q
 have hR : w3.rangeAt g 8 (m.cmd.cells h.c) := mid_range (pre := [.int .i64 m.kind, .int .i64 m.dev, .int .i64 m.req, .int .i64 m.ver, .int .i64 m.pos, .int .i64 m.nxt, .slice h.b m.subs.length h.bc, .int .i64 m.err]) (post := [.int .i64 m.rep.err, .int .i64 m.rep.n, .int .i64 m.rep.dev, .int .i64 m.rep.ep, .int .i64 m.rep.til, .int .i64 m.rep.last, .slice h.r.s m.rep.slices.length h.r.sc, .slice h.r.i m.rep.ids.length h.r.ic, .slice h.r.u m.rep.used.length h.r.uc, .slice h.o m.ops.length h.oc]) hC
 go_upto_region 10 with fail
 refine wp_region_lit ?_
 refine wp_val (by rfl) (.slice a3 E.length c3) (by go_simp) ?_
 simp only [pz]
 refine wp_val (by rfl) (.pointer (some ⟨g, 8, none⟩)) (by go_simp) ?_
 simp only [pz]
 refine wp_val (by rfl) (m.cmd.val h.c) (run_load_row rfl (by rfl) hR Tryz.underlying27 rfl (by kernel_rfl)) ?_
 simp only [pz]
 go_wp2_with fail
 refine (xcmd_any w3 w (g + 1) a3 c3 E.length (bs E) m.cmd h.c hO hB3 (by omega) hin.c hwg (hx.mono (fun _ _ e => e.elim)) hok.cmd hfew.cmd).mono ?_
 rintro e w4 ⟨aF, cF, rfl, hA⟩
 obtain ⟨F, hF, hl, hO2⟩ := own_app hO hA
 rw [hl]
 have HF := Lib.hid hF
 replace hx : Ext no w w4 := hx.trans hA.ext (fun k hk e => (hO.notBlk (by omega) e).elim)
 clear hF hl hA
 have HEB := Lib.hid (show bodyEnc m = F by unfold bodyEnc; unfold restEnc; rw [if_pos hk]; rw [HF.out, HE.out])
 have hFl : F.length ≤ 32000 := by rw [← HEB.out]; exact hbl
 go_wp2_with fail
 refine (rframe_any w4 aF cF F hO2.rd (by omega)).mono ?_
 rintro e wz ⟨aR, cR, rfl, hR, hy⟩
 have hwx := hx.size
 replace hx := hx.comp hy
 go_wp2_with fail
 go_ret2
 have hbf : bytesOf m = frame F := by rw [HB.out, HEB.out]
 exact ⟨aR, cR, by rw [hbf]; rfl, by rw [hbf]; exact hR.mono hwx, hx⟩
set_option maxRecDepth 100000 in
set_option maxHeartbeats 8000000 in
theorem refbytes_5 (w : World) (m : MsgR) (h : MsgA) (hin : m.In w h) (hn : m.nice) (hk : m.kind = 5) :
  Calls Tryz.prog 6 #[m.val h] w (RBytesEnd w m) := by
 have HB := Lib.hid (show bytesOf m = frame (bodyEnc m) by unfold bytesOf; rw [if_pos hn.bytes])
 have hbl := bodyEnc_le hn.ok hn.few
 have HM := Lib.hid (show manyM m = false by
  have := hn.bytes
  unfold bytesErr at this
  rw [if_neg (by omega)] at this
  split at this
  ·omega
  ·split at this
   ·omega
   ·rename_i e; cases hb : manyM m with
    | true => exact absurd hb e
    | false => rfl)
 have hok := hn.ok
 have hfew := hn.few
 have hsb := hn.sb
 have hNI := Lib.hid hn
 clear hn
 go_enter Tryz.func6, Tryz.ntmps6
 go_upto_region 0 with fail
 refine wp_region_lit ?_
 refine wp_box_rmsg (m := m) (h := h) rfl rfl (by rfl) (fun hC => ?_)
 simp only [pz]
 have hx := Ext.alloc no w (.cells (m.cells h).toArray 42)
 have hgs : w.heap.size + 1 = (w.alloc (.cells (m.cells h).toArray 42)).heap.size := by simp
 generalize w.alloc (.cells (m.cells h).toArray 42) = w1 at *
 obtain ⟨g, hg⟩ : ∃ v, v = w.heap.size := ⟨_, rfl⟩
 rw [← hg] at hC hgs ⊢
 have hwg : w.heap.size ≤ g + 1 := by omega
 have hgw : w.heap.size ≤ g := by omega
 have hB1 : g + 1 ≤ w1.heap.size := by omega
 clear hg hgs
 have z0 : w1.cell? ⟨g, 0, none⟩ = some (.int .i64 5) := by have q := hC.cell 0 _ rfl; rwa [hk] at q
 have z6 := hC.cell 6 _ rfl
 rw [hsb] at z6
 go_upto_region 5 with fail
 refine wp_region_lit ?_
 refine wp_load_rmsg (m := m) (h := h) rfl rfl (by rfl) hC ?_
 simp only [pz]
 go_wp2_with fail
 refine (refmany_any w1 m h).mono ?_
 rintro e w2 ⟨rfl, hy⟩
 rw [HM.out]
 have hC := hC.ext (msg_ne _ _) hy (fun h => h)
 have hB2 := Nat.le_trans hB1 hy.size
 replace hx := hx.comp hy
 clear hy z0 z6 hB1
 have z0 : w2.cell? ⟨g, 0, none⟩ = some (.int .i64 5) := by have q := hC.cell 0 _ rfl; rwa [hk] at q
 have z1 := hC.cell 1 _ rfl
 go_wp2_with fail
 refine (xnums_any _ (g + 1) none (some ⟨w2.heap.size, 0, none⟩) 0 2 0 [] [5, m.dev] (Own.nil _ _ _) (by simp; omega) (by omega) (Rd.lit w2 _ _ _) (fun _ ad _ => by rintro ⟨ad', ha', he⟩; cases ha') (by simp) (by intro n hn; simp at hn; rcases hn with rfl | rfl; unfold I64ok; omega; exact hok.dev)).mono ?_
 rintro e w3 ⟨a3, c3, rfl, hA⟩
 have hA := App.pre (Ext.alloc no w2 _) hA
 obtain ⟨E, hE⟩ : ∃ E, E = [5, m.dev].flatMap encI := ⟨_, rfl⟩
 rw [← hE] at hA ⊢
 have hEl : E.length ≤ 20 := by rw [hE]; exact encs_le (l := [5, m.dev]) (by intro n hn; simp at hn; rcases hn with rfl | rfl; unfold I64ok; omega; exact hok.dev)
 have HE := Lib.hid (show E = encs [m.kind, m.dev] by rw [hE, hk]; rfl)
 have hO := hA.own
 rw [Nat.zero_add, List.nil_append] at hO
 rw [Nat.zero_add]
 have hy := hA.ext
 have hC := hC.ext (msg_ne _ _) hy (fun e => by obtain ⟨ad, ha, _⟩ := e; cases ha)
 replace hx : Ext no w w3 := hx.comp (hy.mono (fun k _ e => by obtain ⟨ad, ha, _⟩ := e; cases ha))
 have hB3 := Nat.le_trans hB2 hy.size
 clear hE hA hy z0 z1 hB2
 have z0 : w3.cell? ⟨g, 0, none⟩ = some (.int .i64 5) := by have q := hC.cell 0 _ rfl; rwa [hk] at q
 have z2 := hC.cell 2 _ rfl
 have z7 := hC.cell 7 _ rfl
 go_wp2_with fail
 refine (xnums_any _ (g + 1) a3 (some ⟨w3.heap.size, 0, none⟩) c3 2 _ _ [m.req, m.err] (hO.alloc _) (by simp; omega) (by omega) (Rd.lit w3 _ _ _) (fun _ ad h => by cases h; rintro ⟨ad', ha', he⟩; have := (hO.base ad' ha').2.1; simp only at he; omega) (by simp) (by simp [hok.req, hok.err])).mono ?_
 rintro e w4 ⟨aF, cF, rfl, hA⟩
 have hA := App.pre (Ext.alloc no w3 _) hA
 obtain ⟨F, hF, hl, hO2⟩ := own_app hO hA
 rw [hl]
 have HF := Lib.hid hF
 replace hx : Ext no w w4 := hx.trans hA.ext (fun k hk e => (hO.notBlk (by omega) e).elim)
 clear hF hl hA
 have HEB := Lib.hid (show bodyEnc m = F by unfold bodyEnc; unfold restEnc; rw [if_neg (by omega), if_neg (by omega), if_neg (by omega), if_neg (by omega)]; rw [HF.out, HE.out]; rfl)
 have hFl : F.length ≤ 32000 := by rw [← HEB.out]; exact hbl
 go_wp2_with fail
 refine (rframe_any w4 aF cF F hO2.rd (by omega)).mono ?_
 rintro e wz ⟨aR, cR, rfl, hR, hy⟩
 have hwx := hx.size
 replace hx := hx.comp hy
 go_wp2_with fail
 go_ret2
 have hbf : bytesOf m = frame F := by rw [HB.out, HEB.out]
 exact ⟨aR, cR, by rw [hbf]; rfl, by rw [hbf]; exact hR.mono hwx, hx⟩
set_option maxRecDepth 100000 in
set_option maxHeartbeats 8000000 in
theorem refbytes_2 (w : World) (m : MsgR) (h : MsgA) (hin : m.In w h) (hn : m.nice) (hk : m.kind = 2) :
  Calls Tryz.prog 6 #[m.val h] w (RBytesEnd w m) := by
 have HB := Lib.hid (show bytesOf m = frame (bodyEnc m) by unfold bytesOf; rw [if_pos hn.bytes])
 have hbl := bodyEnc_le hn.ok hn.few
 have HM := Lib.hid (show manyM m = false by
  have := hn.bytes
  unfold bytesErr at this
  rw [if_neg (by omega)] at this
  split at this
  ·omega
  ·split at this
   ·omega
   ·rename_i e; cases hb : manyM m with
    | true => exact absurd hb e
    | false => rfl)
 have hok := hn.ok
 have hfew := hn.few
 have hsb := hn.sb
 have hNI := Lib.hid hn
 clear hn
 go_enter Tryz.func6, Tryz.ntmps6
 go_upto_region 0 with fail
 refine wp_region_lit ?_
 refine wp_box_rmsg (m := m) (h := h) rfl rfl (by rfl) (fun hC => ?_)
 simp only [pz]
 have hx := Ext.alloc no w (.cells (m.cells h).toArray 42)
 have hgs : w.heap.size + 1 = (w.alloc (.cells (m.cells h).toArray 42)).heap.size := by simp
 generalize w.alloc (.cells (m.cells h).toArray 42) = w1 at *
 obtain ⟨g, hg⟩ : ∃ v, v = w.heap.size := ⟨_, rfl⟩
 rw [← hg] at hC hgs ⊢
 have hwg : w.heap.size ≤ g + 1 := by omega
 have hgw : w.heap.size ≤ g := by omega
 have hB1 : g + 1 ≤ w1.heap.size := by omega
 clear hg hgs
 have z0 : w1.cell? ⟨g, 0, none⟩ = some (.int .i64 2) := by have q := hC.cell 0 _ rfl; rwa [hk] at q
 have z6 := hC.cell 6 _ rfl
 rw [hsb] at z6
 go_upto_region 5 with fail
 refine wp_region_lit ?_
 refine wp_load_rmsg (m := m) (h := h) rfl rfl (by rfl) hC ?_
 simp only [pz]
 go_wp2_with fail
 refine (refmany_any w1 m h).mono ?_
 rintro e w2 ⟨rfl, hy⟩
 rw [HM.out]
 have hC := hC.ext (msg_ne _ _) hy (fun h => h)
 have hB2 := Nat.le_trans hB1 hy.size
 replace hx := hx.comp hy
 clear hy z0 z6 hB1
 have z0 : w2.cell? ⟨g, 0, none⟩ = some (.int .i64 2) := by have q := hC.cell 0 _ rfl; rwa [hk] at q
 have z1 := hC.cell 1 _ rfl
 go_wp2_with fail
 refine (xnums_any _ (g + 1) none (some ⟨w2.heap.size, 0, none⟩) 0 2 0 [] [2, m.dev] (Own.nil _ _ _) (by simp; omega) (by omega) (Rd.lit w2 _ _ _) (fun _ ad _ => by rintro ⟨ad', ha', he⟩; cases ha') (by simp) (by intro n hn; simp at hn; rcases hn with rfl | rfl; unfold I64ok; omega; exact hok.dev)).mono ?_
 rintro e w3 ⟨a3, c3, rfl, hA⟩
 have hA := App.pre (Ext.alloc no w2 _) hA
 obtain ⟨E, hE⟩ : ∃ E, E = [2, m.dev].flatMap encI := ⟨_, rfl⟩
 rw [← hE] at hA ⊢
 have hEl : E.length ≤ 20 := by rw [hE]; exact encs_le (l := [2, m.dev]) (by intro n hn; simp at hn; rcases hn with rfl | rfl; unfold I64ok; omega; exact hok.dev)
 have HE := Lib.hid (show E = encs [m.kind, m.dev] by rw [hE, hk]; rfl)
 have hO := hA.own
 rw [Nat.zero_add, List.nil_append] at hO
 rw [Nat.zero_add]
 have hy := hA.ext
 have hC := hC.ext (msg_ne _ _) hy (fun e => by obtain ⟨ad, ha, _⟩ := e; cases ha)
 replace hx : Ext no w w3 := hx.comp (hy.mono (fun k _ e => by obtain ⟨ad, ha, _⟩ := e; cases ha))
 have hB3 := Nat.le_trans hB2 hy.size
 clear hE hA hy z0 z1 hB2
 have z0 : w3.cell? ⟨g, 0, none⟩ = some (.int .i64 2) := by have q := hC.cell 0 _ rfl; rwa [hk] at q
 have hng : ¬ blk a3 g := hO.notBlk (by omega)
 have y1 := hC.cell 2 _ rfl
 have y2 := hC.cell 4 _ rfl
 have hR : w3.rangeAt g 15 (m.rep.cells h.r) := mid_range (pre := [.int .i64 m.kind, .int .i64 m.dev, .int .i64 m.req, .int .i64 m.ver, .int .i64 m.pos, .int .i64 m.nxt, .slice h.b m.subs.length h.bc, .int .i64 m.err, .int .i64 m.cmd.kind, .int .i64 m.cmd.dev, .int .i64 m.cmd.ep, .int .i64 m.cmd.req, .int .i64 m.cmd.n, .slice h.c.w m.cmd.wants.length h.c.wc, .slice h.c.o m.cmd.ops.length h.c.oc]) (post := [.slice h.o m.ops.length h.oc]) hC
 go_upto_region 12 with fail
 refine wp_region_F [2, 4, 8] (looks [(2, fun z => Ext (blk a3) w3 z), (4, fun z => Ext (blk a3) w3 z), (8, fun z => Ext (blk a3) w3 z)]) (by kernel_rfl) ?_
 have hT0 : ∀ k, looks [(2, fun z => Ext (blk a3) w3 z), (4, fun z => Ext (blk a3) w3 z), (8, fun z => Ext (blk a3) w3 z)] k (w3.drew) := looks_all ⟨(Ext.drew (blk a3) w3), (Ext.drew (blk a3) w3), (Ext.drew (blk a3) w3), trivial⟩
 refine wpF_tk 0 (v := ?_) rfl hT0 (by rfl) ?_ ?_
 rotate_left
 ·(intro wq; go_simp; try with_reducible rfl)
 simp only [pz]
 refine wpF_tk 1 (v := ?_) rfl hT0 (by rfl) ?_ ?_
 rotate_left
 ·(intro wq; go_simp; try with_reducible rfl)
 simp only [pz]
 refine wpF_lk 2 (v := .int .i64 m.req) rfl hT0 (by rfl) (fun w hS => by have hS : Ext (blk a3) w3 w := hS; have q := hS.keeps y1 hng; go_simp) ?_
 simp only [pz]
 refine wpF_tk 3 (v := ?_) rfl hT0 (by rfl) ?_ ?_
 rotate_left
 ·(intro wq; go_simp; try with_reducible rfl)
 simp only [pz]
 refine wpF_lk 4 (v := .int .i64 m.pos) rfl hT0 (by rfl) (fun w hS => by have hS : Ext (blk a3) w3 w := hS; have q := hS.keeps y2 hng; go_simp) ?_
 simp only [pz]
 refine wpF_tk 7 (v := ?_) rfl hT0 (by rfl) ?_ ?_
 rotate_left
 ·(intro wq; go_simp; try with_reducible rfl)
 simp only [pz]
 refine wpF_lk 8 (v := m.rep.val h.r) rfl hT0 (by rfl) (fun w hS => by have hS : Ext (blk a3) w3 w := hS; exact run_load_row rfl (by rfl) (fun j v hv => hS.keeps (hR j v hv) hng) Tryz.underlying34 rfl (by kernel_rfl)) ?_
 simp only [pz]
 refine wpF_exec 5 rfl (by kernel_rfl) (by rfl) ?_
 intro K hK
 go_simp
 have hA0 := Ext.alloc no w3 (.cells #[.int .i64 m.req, .int .i64 m.pos] 3)
 have hR0 : Rd ((w3.alloc (.cells #[.int .i64 m.req, .int .i64 m.pos] 3)).drew) (some ⟨w3.heap.size, 0, none⟩) (is [m.req, m.pos]) := (Rd.lit w3 _ _ _).drew
 have hT1 : ∀ k, looks [(2, fun z => Ext (blk a3) w3 z), (4, fun z => Ext (blk a3) w3 z), (8, fun z => Ext (blk a3) w3 z)] k ((w3.alloc (.cells #[.int .i64 m.req, .int .i64 m.pos] 3)).drew) := looks_all ⟨((Ext.alloc (blk a3) w3 (.cells #[.int .i64 m.req, .int .i64 m.pos] 3)).comp (Ext.drew _ _)), ((Ext.alloc (blk a3) w3 (.cells #[.int .i64 m.req, .int .i64 m.pos] 3)).comp (Ext.drew _ _)), ((Ext.alloc (blk a3) w3 (.cells #[.int .i64 m.req, .int .i64 m.pos] 3)).comp (Ext.drew _ _)), trivial⟩
 refine hK _ _ (looks [(2, fun z => Ext (blk a3) w3 z), (4, fun z => Ext (blk a3) w3 z), (8, fun z => Ext (blk a3) w3 z)]) ⟨.inr (.inl (by kernel_rfl)), .inr (.inl (by kernel_rfl)), .inr (.inr (fun x h => h)), trivial⟩ hT1 ?_
 clear hK K
 try simp only [pz]
 refine wpF_exec 6 rfl (by kernel_rfl) (by rfl) ?_
 intro K hK
 go_simp
 refine (xnums_any ((w3.alloc (.cells #[.int .i64 m.req, .int .i64 m.pos] 3)).drew) (g + 1) a3 (some ⟨w3.heap.size, 0, none⟩) c3 2 _ _ [m.req, m.pos] ((hO.alloc _).drew) (by show g + 1 ≤ (w3.alloc (.cells #[.int .i64 m.req, .int .i64 m.pos] 3)).heap.size; simp; omega) (by omega) hR0 (fun _ ad h => by cases h; rintro ⟨ad', ha', he⟩; have := (hO.base ad' ha').2.1; simp only at he; omega) (by simp) (by simp [hok.req, hok.pos])).mono ?_
 rintro e w4 ⟨a4, c4, rfl, hA⟩
 have hA := App.pre ((Ext.alloc no w3 (.cells #[.int .i64 m.req, .int .i64 m.pos] 3)).comp (Ext.drew no _)) hA
 obtain ⟨F1, hF1, hl1, hO1⟩ := own_app hO hA
 rw [hl1]
 have hF1l : F1.length ≤ 40 := by rw [← hl1]; have := encs_le (l := [m.req, m.pos]) (by simp [hok.req, hok.pos]); unfold encs at this; simp only [List.length_cons, List.length_nil] at this; omega
 have HF1 := Lib.hid hF1
 have hX4 := hA.ext
 have hx4 : Ext no w w4 := hx.trans hA.ext (fun k hk e => (hO.notBlk (by omega) e).elim)
 have hB4 := Nat.le_trans hB3 hA.ext.size
 clear hF1 hl1 hA
 have hT2 : ∀ k, looks [(2, fun z => Ext (blk a3) w3 z), (4, fun z => Ext (blk a3) w3 z), (8, fun z => Ext (blk a3) w3 z)] k (w4) := looks_all ⟨hX4, hX4, hX4, trivial⟩
 refine hK _ _ (looks [(2, fun z => Ext (blk a3) w3 z), (4, fun z => Ext (blk a3) w3 z), (8, fun z => Ext (blk a3) w3 z)]) ⟨.inr (.inl (by kernel_rfl)), .inr (.inl (by kernel_rfl)), .inr (.inr (fun x h => h)), trivial⟩ hT2 ?_
 clear hK K
 try simp only [pz]
 refine wpF_exec 9 rfl (by kernel_rfl) (by rfl) ?_
 intro K hK
 go_simp
 refine (xreply_any w4 w (g + 1) a4 c4 F1.length (bs F1) m.rep h.r hO1 hB4 (by omega) hin.r hwg (hx4.mono (fun _ _ e => e.elim)) hok.rep hfew.rep).mono ?_
 rintro e w5 ⟨aF, cF, rfl, hA⟩
 obtain ⟨F, hF, hl, hO2⟩ := own_app hO1 hA
 rw [hl]
 have HF := Lib.hid hF
 have hx5 : Ext no w w5 := hx4.trans hA.ext (fun k hk e => (hO1.notBlk (by omega) e).elim)
 clear hF hl hA hx
 have hT3 : ∀ k, looks [(2, fun z => True), (4, fun z => True), (8, fun z => True)] k (w5) := looks_all ⟨trivial, trivial, trivial, trivial⟩
 refine hK _ _ (looks [(2, fun z => True), (4, fun z => True), (8, fun z => True)]) ⟨.inr (.inl (by kernel_rfl)), .inr (.inl (by kernel_rfl)), .inr (.inl (by kernel_rfl)), trivial⟩ hT3 ?_
 clear hK K
 try simp only [pz]
 refine wpF_tk 10 (v := ?_) rfl hT3 (by rfl) ?_ ?_
 rotate_left
 ·(intro wq; go_simp; try with_reducible rfl)
 simp only [pz]
 refine wpF_done (by kernel_rfl) ?_ _
 have HEB := Lib.hid (show bodyEnc m = F by unfold bodyEnc; unfold restEnc; rw [if_neg (by omega), if_pos hk]; rw [HF.out, HF1.out, HE.out]; simp only [List.append_assoc]; rfl)
 have hFl : F.length ≤ 32000 := by rw [← HEB.out]; exact hbl
 go_wp2_with fail
 refine (rframe_any w5 aF cF F hO2.rd (by omega)).mono ?_
 rintro e wz ⟨aR, cR, rfl, hR, hy⟩
 have hwx := hx5.size
 have hx := hx5.comp hy
 go_wp2_with fail
 go_ret2
 have hbf : bytesOf m = frame F := by rw [HB.out, HEB.out]
 exact ⟨aR, cR, by rw [hbf]; rfl, by rw [hbf]; exact hR.mono hwx, hx⟩
set_option maxRecDepth 100000 in
set_option maxHeartbeats 8000000 in
theorem refbytes_4 (w : World) (m : MsgR) (h : MsgA) (hin : m.In w h) (hn : m.nice) (hk : m.kind = 4) :
  Calls Tryz.prog 6 #[m.val h] w (RBytesEnd w m) := by
 have HB := Lib.hid (show bytesOf m = frame (bodyEnc m) by unfold bytesOf; rw [if_pos hn.bytes])
 have hbl := bodyEnc_le hn.ok hn.few
 have HM := Lib.hid (show manyM m = false by
  have := hn.bytes
  unfold bytesErr at this
  rw [if_neg (by omega)] at this
  split at this
  ·omega
  ·split at this
   ·omega
   ·rename_i e; cases hb : manyM m with
    | true => exact absurd hb e
    | false => rfl)
 have hok := hn.ok
 have hfew := hn.few
 have hsb := hn.sb
 have hNI := Lib.hid hn
 clear hn
 go_enter Tryz.func6, Tryz.ntmps6
 go_upto_region 0 with fail
 refine wp_region_lit ?_
 refine wp_box_rmsg (m := m) (h := h) rfl rfl (by rfl) (fun hC => ?_)
 simp only [pz]
 have hx := Ext.alloc no w (.cells (m.cells h).toArray 42)
 have hgs : w.heap.size + 1 = (w.alloc (.cells (m.cells h).toArray 42)).heap.size := by simp
 generalize w.alloc (.cells (m.cells h).toArray 42) = w1 at *
 obtain ⟨g, hg⟩ : ∃ v, v = w.heap.size := ⟨_, rfl⟩
 rw [← hg] at hC hgs ⊢
 have hwg : w.heap.size ≤ g + 1 := by omega
 have hgw : w.heap.size ≤ g := by omega
 have hB1 : g + 1 ≤ w1.heap.size := by omega
 clear hg hgs
 have z0 : w1.cell? ⟨g, 0, none⟩ = some (.int .i64 4) := by have q := hC.cell 0 _ rfl; rwa [hk] at q
 have z6 := hC.cell 6 _ rfl
 rw [hsb] at z6
 go_upto_region 5 with fail
 refine wp_region_lit ?_
 refine wp_load_rmsg (m := m) (h := h) rfl rfl (by rfl) hC ?_
 simp only [pz]
 go_wp2_with fail
 refine (refmany_any w1 m h).mono ?_
 rintro e w2 ⟨rfl, hy⟩
 rw [HM.out]
 have hC := hC.ext (msg_ne _ _) hy (fun h => h)
 have hB2 := Nat.le_trans hB1 hy.size
 replace hx := hx.comp hy
 clear hy z0 z6 hB1
 have z0 : w2.cell? ⟨g, 0, none⟩ = some (.int .i64 4) := by have q := hC.cell 0 _ rfl; rwa [hk] at q
 have z1 := hC.cell 1 _ rfl
 go_wp2_with fail
 refine (xnums_any _ (g + 1) none (some ⟨w2.heap.size, 0, none⟩) 0 2 0 [] [4, m.dev] (Own.nil _ _ _) (by simp; omega) (by omega) (Rd.lit w2 _ _ _) (fun _ ad _ => by rintro ⟨ad', ha', he⟩; cases ha') (by simp) (by intro n hn; simp at hn; rcases hn with rfl | rfl; unfold I64ok; omega; exact hok.dev)).mono ?_
 rintro e w3 ⟨a3, c3, rfl, hA⟩
 have hA := App.pre (Ext.alloc no w2 _) hA
 obtain ⟨E, hE⟩ : ∃ E, E = [4, m.dev].flatMap encI := ⟨_, rfl⟩
 rw [← hE] at hA ⊢
 have hEl : E.length ≤ 20 := by rw [hE]; exact encs_le (l := [4, m.dev]) (by intro n hn; simp at hn; rcases hn with rfl | rfl; unfold I64ok; omega; exact hok.dev)
 have HE := Lib.hid (show E = encs [m.kind, m.dev] by rw [hE, hk]; rfl)
 have hO := hA.own
 rw [Nat.zero_add, List.nil_append] at hO
 rw [Nat.zero_add]
 have hy := hA.ext
 have hC := hC.ext (msg_ne _ _) hy (fun e => by obtain ⟨ad, ha, _⟩ := e; cases ha)
 replace hx : Ext no w w3 := hx.comp (hy.mono (fun k _ e => by obtain ⟨ad, ha, _⟩ := e; cases ha))
 have hB3 := Nat.le_trans hB2 hy.size
 clear hE hA hy z0 z1 hB2
 have z0 : w3.cell? ⟨g, 0, none⟩ = some (.int .i64 4) := by have q := hC.cell 0 _ rfl; rwa [hk] at q
 have hng : ¬ blk a3 g := hO.notBlk (by omega)
 have y1 := hC.cell 4 _ rfl
 have y2 := hC.cell 5 _ rfl
 have y3 := hC.cell 24 _ rfl
 go_upto_region 23 with fail
 refine wp_region_F [2, 4, 8] (looks [(2, fun z => Ext (blk a3) w3 z), (4, fun z => Ext (blk a3) w3 z), (8, fun z => Ext (blk a3) w3 z)]) (by kernel_rfl) ?_
 have hT0 : ∀ k, looks [(2, fun z => Ext (blk a3) w3 z), (4, fun z => Ext (blk a3) w3 z), (8, fun z => Ext (blk a3) w3 z)] k (w3.drew) := looks_all ⟨(Ext.drew (blk a3) w3), (Ext.drew (blk a3) w3), (Ext.drew (blk a3) w3), trivial⟩
 refine wpF_tk 0 (v := ?_) rfl hT0 (by rfl) ?_ ?_
 rotate_left
 ·(intro wq; go_simp; try with_reducible rfl)
 simp only [pz]
 refine wpF_tk 1 (v := ?_) rfl hT0 (by rfl) ?_ ?_
 rotate_left
 ·(intro wq; go_simp; try with_reducible rfl)
 simp only [pz]
 refine wpF_lk 2 (v := .int .i64 m.pos) rfl hT0 (by rfl) (fun w hS => by have hS : Ext (blk a3) w3 w := hS; have q := hS.keeps y1 hng; go_simp) ?_
 simp only [pz]
 refine wpF_tk 3 (v := ?_) rfl hT0 (by rfl) ?_ ?_
 rotate_left
 ·(intro wq; go_simp; try with_reducible rfl)
 simp only [pz]
 refine wpF_lk 4 (v := .int .i64 m.nxt) rfl hT0 (by rfl) (fun w hS => by have hS : Ext (blk a3) w3 w := hS; have q := hS.keeps y2 hng; go_simp) ?_
 simp only [pz]
 refine wpF_tk 7 (v := ?_) rfl hT0 (by rfl) ?_ ?_
 rotate_left
 ·(intro wq; go_simp; try with_reducible rfl)
 simp only [pz]
 refine wpF_lk 8 (v := .slice h.o m.ops.length h.oc) rfl hT0 (by rfl) (fun w hS => by have hS : Ext (blk a3) w3 w := hS; have q := hS.keeps y3 hng; go_simp) ?_
 simp only [pz]
 refine wpF_exec 5 rfl (by kernel_rfl) (by rfl) ?_
 intro K hK
 go_simp
 have hA0 := Ext.alloc no w3 (.cells #[.int .i64 m.pos, .int .i64 m.nxt] 3)
 have hR0 : Rd ((w3.alloc (.cells #[.int .i64 m.pos, .int .i64 m.nxt] 3)).drew) (some ⟨w3.heap.size, 0, none⟩) (is [m.pos, m.nxt]) := (Rd.lit w3 _ _ _).drew
 have hT1 : ∀ k, looks [(2, fun z => Ext (blk a3) w3 z), (4, fun z => Ext (blk a3) w3 z), (8, fun z => Ext (blk a3) w3 z)] k ((w3.alloc (.cells #[.int .i64 m.pos, .int .i64 m.nxt] 3)).drew) := looks_all ⟨((Ext.alloc (blk a3) w3 (.cells #[.int .i64 m.pos, .int .i64 m.nxt] 3)).comp (Ext.drew _ _)), ((Ext.alloc (blk a3) w3 (.cells #[.int .i64 m.pos, .int .i64 m.nxt] 3)).comp (Ext.drew _ _)), ((Ext.alloc (blk a3) w3 (.cells #[.int .i64 m.pos, .int .i64 m.nxt] 3)).comp (Ext.drew _ _)), trivial⟩
 refine hK _ _ (looks [(2, fun z => Ext (blk a3) w3 z), (4, fun z => Ext (blk a3) w3 z), (8, fun z => Ext (blk a3) w3 z)]) ⟨.inr (.inl (by kernel_rfl)), .inr (.inl (by kernel_rfl)), .inr (.inr (fun x h => h)), trivial⟩ hT1 ?_
 clear hK K
 try simp only [pz]
 refine wpF_exec 6 rfl (by kernel_rfl) (by rfl) ?_
 intro K hK
 go_simp
 refine (xnums_any ((w3.alloc (.cells #[.int .i64 m.pos, .int .i64 m.nxt] 3)).drew) (g + 1) a3 (some ⟨w3.heap.size, 0, none⟩) c3 2 _ _ [m.pos, m.nxt] ((hO.alloc _).drew) (by show g + 1 ≤ (w3.alloc (.cells #[.int .i64 m.pos, .int .i64 m.nxt] 3)).heap.size; simp; omega) (by omega) hR0 (fun _ ad h => by cases h; rintro ⟨ad', ha', he⟩; have := (hO.base ad' ha').2.1; simp only at he; omega) (by simp) (by simp [hok.pos, hok.nxt])).mono ?_
 rintro e w4 ⟨a4, c4, rfl, hA⟩
 have hA := App.pre ((Ext.alloc no w3 (.cells #[.int .i64 m.pos, .int .i64 m.nxt] 3)).comp (Ext.drew no _)) hA
 obtain ⟨F1, hF1, hl1, hO1⟩ := own_app hO hA
 rw [hl1]
 have hF1l : F1.length ≤ 40 := by rw [← hl1]; have := encs_le (l := [m.pos, m.nxt]) (by simp [hok.pos, hok.nxt]); unfold encs at this; simp only [List.length_cons, List.length_nil] at this; omega
 have HF1 := Lib.hid hF1
 have hX4 := hA.ext
 have hx4 : Ext no w w4 := hx.trans hA.ext (fun k hk e => (hO.notBlk (by omega) e).elim)
 have hB4 := Nat.le_trans hB3 hA.ext.size
 clear hF1 hl1 hA
 have hT2 : ∀ k, looks [(2, fun z => Ext (blk a3) w3 z), (4, fun z => Ext (blk a3) w3 z), (8, fun z => Ext (blk a3) w3 z)] k (w4) := looks_all ⟨hX4, hX4, hX4, trivial⟩
 refine hK _ _ (looks [(2, fun z => Ext (blk a3) w3 z), (4, fun z => Ext (blk a3) w3 z), (8, fun z => Ext (blk a3) w3 z)]) ⟨.inr (.inl (by kernel_rfl)), .inr (.inl (by kernel_rfl)), .inr (.inr (fun x h => h)), trivial⟩ hT2 ?_
 clear hK K
 try simp only [pz]
 refine wpF_exec 9 rfl (by kernel_rfl) (by rfl) ?_
 intro K hK
 go_simp
 refine (xlist_any w4 w (g + 1) a4 h.o c4 h.oc F1.length (bs F1) m.ops hO1 hB4 (by omega) hin.o hwg (hx4.mono (fun _ _ e => e.elim)) hok.ops hfew.ol hfew.of).mono ?_
 rintro e w5 ⟨aF, cF, rfl, hA⟩
 obtain ⟨F, hF, hl, hO2⟩ := own_app hO1 hA
 rw [hl]
 have HF := Lib.hid hF
 have hx5 : Ext no w w5 := hx4.trans hA.ext (fun k hk e => (hO1.notBlk (by omega) e).elim)
 clear hF hl hA hx
 have hT3 : ∀ k, looks [(2, fun z => True), (4, fun z => True), (8, fun z => True)] k (w5) := looks_all ⟨trivial, trivial, trivial, trivial⟩
 refine hK _ _ (looks [(2, fun z => True), (4, fun z => True), (8, fun z => True)]) ⟨.inr (.inl (by kernel_rfl)), .inr (.inl (by kernel_rfl)), .inr (.inl (by kernel_rfl)), trivial⟩ hT3 ?_
 clear hK K
 try simp only [pz]
 refine wpF_tk 10 (v := ?_) rfl hT3 (by rfl) ?_ ?_
 rotate_left
 ·(intro wq; go_simp; try with_reducible rfl)
 simp only [pz]
 refine wpF_done (by kernel_rfl) ?_ _
 have HEB := Lib.hid (show bodyEnc m = F by unfold bodyEnc; unfold restEnc; rw [if_neg (by omega), if_neg (by omega), if_neg (by omega), if_pos hk]; rw [HF.out, HF1.out, HE.out]; simp only [List.append_assoc]; rfl)
 have hFl : F.length ≤ 32000 := by rw [← HEB.out]; exact hbl
 go_wp2_with fail
 refine (rframe_any w5 aF cF F hO2.rd (by omega)).mono ?_
 rintro e wz ⟨aR, cR, rfl, hR, hy⟩
 have hwx := hx5.size
 have hx := hx5.comp hy
 go_wp2_with fail
 go_ret2
 have hbf : bytesOf m = frame F := by rw [HB.out, HEB.out]
 exact ⟨aR, cR, by rw [hbf]; rfl, by rw [hbf]; exact hR.mono hwx, hx⟩
set_option maxRecDepth 100000 in
set_option maxHeartbeats 8000000 in
theorem refbytes_3 (w : World) (m : MsgR) (h : MsgA) (hin : m.In w h) (hn : m.nice) (hk : m.kind = 3) :
  Calls Tryz.prog 6 #[m.val h] w (RBytesEnd w m) := by
 have HB := Lib.hid (show bytesOf m = frame (bodyEnc m) by unfold bytesOf; rw [if_pos hn.bytes])
 have hbl := bodyEnc_le hn.ok hn.few
 have HM := Lib.hid (show manyM m = false by
  have := hn.bytes
  unfold bytesErr at this
  rw [if_neg (by omega)] at this
  split at this
  ·omega
  ·split at this
   ·omega
   ·rename_i e; cases hb : manyM m with
    | true => exact absurd hb e
    | false => rfl)
 have hok := hn.ok
 have hfew := hn.few
 have hsb := hn.sb
 have hNI := Lib.hid hn
 clear hn
 go_enter Tryz.func6, Tryz.ntmps6
 go_upto_region 0 with fail
 refine wp_region_lit ?_
 refine wp_box_rmsg (m := m) (h := h) rfl rfl (by rfl) (fun hC => ?_)
 simp only [pz]
 have hx := Ext.alloc no w (.cells (m.cells h).toArray 42)
 have hgs : w.heap.size + 1 = (w.alloc (.cells (m.cells h).toArray 42)).heap.size := by simp
 generalize w.alloc (.cells (m.cells h).toArray 42) = w1 at *
 obtain ⟨g, hg⟩ : ∃ v, v = w.heap.size := ⟨_, rfl⟩
 rw [← hg] at hC hgs ⊢
 have hwg : w.heap.size ≤ g + 1 := by omega
 have hgw : w.heap.size ≤ g := by omega
 have hB1 : g + 1 ≤ w1.heap.size := by omega
 clear hg hgs
 have z0 : w1.cell? ⟨g, 0, none⟩ = some (.int .i64 3) := by have q := hC.cell 0 _ rfl; rwa [hk] at q
 have z6 := hC.cell 6 _ rfl
 rw [hsb] at z6
 go_upto_region 5 with fail
 refine wp_region_lit ?_
 refine wp_load_rmsg (m := m) (h := h) rfl rfl (by rfl) hC ?_
 simp only [pz]
 go_wp2_with fail
 refine (refmany_any w1 m h).mono ?_
 rintro e w2 ⟨rfl, hy⟩
 rw [HM.out]
 have hC := hC.ext (msg_ne _ _) hy (fun h => h)
 have hB2 := Nat.le_trans hB1 hy.size
 replace hx := hx.comp hy
 clear hy z0 z6 hB1
 have z0 : w2.cell? ⟨g, 0, none⟩ = some (.int .i64 3) := by have q := hC.cell 0 _ rfl; rwa [hk] at q
 have z1 := hC.cell 1 _ rfl
 go_wp2_with fail
 refine (xnums_any _ (g + 1) none (some ⟨w2.heap.size, 0, none⟩) 0 2 0 [] [3, m.dev] (Own.nil _ _ _) (by simp; omega) (by omega) (Rd.lit w2 _ _ _) (fun _ ad _ => by rintro ⟨ad', ha', he⟩; cases ha') (by simp) (by intro n hn; simp at hn; rcases hn with rfl | rfl; unfold I64ok; omega; exact hok.dev)).mono ?_
 rintro e w3 ⟨a3, c3, rfl, hA⟩
 have hA := App.pre (Ext.alloc no w2 _) hA
 obtain ⟨E, hE⟩ : ∃ E, E = [3, m.dev].flatMap encI := ⟨_, rfl⟩
 rw [← hE] at hA ⊢
 have hEl : E.length ≤ 20 := by rw [hE]; exact encs_le (l := [3, m.dev]) (by intro n hn; simp at hn; rcases hn with rfl | rfl; unfold I64ok; omega; exact hok.dev)
 have HE := Lib.hid (show E = encs [m.kind, m.dev] by rw [hE, hk]; rfl)
 have hO := hA.own
 rw [Nat.zero_add, List.nil_append] at hO
 rw [Nat.zero_add]
 have hy := hA.ext
 have hC := hC.ext (msg_ne _ _) hy (fun e => by obtain ⟨ad, ha, _⟩ := e; cases ha)
 replace hx : Ext no w w3 := hx.comp (hy.mono (fun k _ e => by obtain ⟨ad, ha, _⟩ := e; cases ha))
 have hB3 := Nat.le_trans hB2 hy.size
 clear hE hA hy z0 z1 hB2
 have z0 : w3.cell? ⟨g, 0, none⟩ = some (.int .i64 3) := by have q := hC.cell 0 _ rfl; rwa [hk] at q
 have z3 := hC.cell 3 _ rfl
 have z4 := hC.cell 4 _ rfl
 go_wp2_with fail
 refine (xnums_any _ (g + 1) a3 (some ⟨w3.heap.size, 0, none⟩) c3 2 _ _ [m.ver, m.pos] (hO.alloc _) (by simp; omega) (by omega) (Rd.lit w3 _ _ _) (fun _ ad h => by cases h; rintro ⟨ad', ha', he⟩; have := (hO.base ad' ha').2.1; simp only at he; omega) (by simp) (by simp [hok.ver, hok.pos])).mono ?_
 rintro e w4 ⟨a4, c4, rfl, hA⟩
 have hA := App.pre (Ext.alloc no w3 _) hA
 obtain ⟨F1, hF1, hl1, hO1⟩ := own_app hO hA
 rw [hl1]
 have hF1l : F1.length ≤ 40 := by rw [← hl1]; have := encs_le (l := [m.ver, m.pos]) (by simp [hok.ver, hok.pos]); unfold encs at this; simp only [List.length_cons, List.length_nil] at this; omega
 have HF1 := Lib.hid hF1
 have hC4 := hC.ext (msg_ne _ _) hA.ext (hO.notBlk (by omega))
 have hx4 : Ext no w w4 := hx.trans hA.ext (fun k hk e => (hO.notBlk (by omega) e).elim)
 have hB4 := Nat.le_trans hB3 hA.ext.size
 clear hF1 hl1 hA hx hC hO z0 z3 z4
 obtain ⟨x0, x1, x2, hss⟩ : ∃ s0 s1 s2, m.subs = [s0, s1, s2] := by
  match m.subs, hsb with
  | [a, b, c], _ => exact ⟨a, b, c, rfl⟩
 go_wp2_with fail
 go_loopw [4, 5] (fun s4 s5 wr => ∃ (i : Nat) (F : List UInt8) (a' : Option Addr) (c' : Nat), i ≤ 3 ∧ s5 = .int .i64 i ∧ F = F1 ++ (m.subs.take i).flatMap (fun b => encI (bit1 b)) ∧ F.length ≤ 40 + 10 * i ∧ s4 = .slice a' F.length c' ∧ Own wr (g + 1) a' 1 F.length c' (bs F) ∧ Blk wr g (m.cells h) ∧ g + 1 ≤ wr.heap.size ∧ Ext no w wr) (fun _ s5 _ => 3 - (intOf s5).toNat)
 case atStart => exact ⟨0, F1, a4, c4, by omega, rfl, by simp, by omega, rfl, hO1, hC4, hB4, hx4⟩
 case round =>
  clear hO1 hC4 hB4 hx4
  obtain ⟨i, F, aF, cF, hi, rfl, hF, hFl, rfl, hO2, hC, hBr, hx⟩ := hrel
  have HF := Lib.hid hF
  clear hF
  by_cases hlt : i < 3
  ·have d1 : decide ((i : Int) < 3) = true := decT (by omega)
   have z6 := hC.cell 6 _ rfl
   obtain ⟨bv, hbv⟩ : ∃ bv, m.subs[i]? = some bv := ⟨_, List.getElem?_eq_getElem (by omega)⟩
   have hrs := hin.b.ext hx (fun _ _ h => h)
   obtain ⟨ob, oof, hsa, _⟩ := hrs.shape (by rw [bls_length]; omega)
   rw [hsa] at hrs z6
   rw [hsb] at z6
   have y0 : wr.cell? ⟨ob, oof + i, none⟩ = some (.bool bv) := by
    have q := hrs.lookup i (by rw [bls_length]; omega)
    have e : (bls m.subs)[i]'(by rw [bls_length]; omega) = .bool bv := by
     have e2 := (List.getElem?_eq_some_iff.1 hbv).2
     simp only [bls, List.getElem_map, e2]
    rw [e] at q
    exact q
   have HT := Lib.hid (flat_take (fun b => encI (bit1 b)) m.subs i bv hbv)
   clear hrs hsa hbv
   cases bv with
   | true =>
    go_wp2_with fail
    refine (rint_any wr (g + 1) aF cF _ _ 1 hO2 hBr (by omega) (by unfold I64ok; omega)).mono ?_
    rintro e w6 ⟨a6, c6, rfl, hA⟩
    have hel := encI_le (n := 1) (by unfold I64ok; omega)
    obtain ⟨F3, hF3, hl3, hO3⟩ := own_app hO2 hA
    rw [hl3]
    have hF3l : F3.length ≤ 40 + 10 * (i + 1) := by rw [← hl3]; omega
    have HF3 := Lib.hid (show F3 = F1 ++ (m.subs.take (i + 1)).flatMap (fun b => encI (bit1 b)) by rw [hF3, HF.out, HT.out, List.append_assoc]; rfl)
    have hC6 := hC.ext (msg_ne _ _) hA.ext (hO2.notBlk (by omega))
    have hx6 : Ext no w w6 := hx.trans hA.ext (fun k hk e => (hO2.notBlk (by omega) e).elim)
    have hB6 := Nat.le_trans hBr hA.ext.size
    clear hF3 hl3 hA
    go_wp2_with fail
    go_roundw
    case rel => exact ⟨i + 1, F3, a6, c6, by omega, by go_num, HF3.out, hF3l, rfl, hO3, hC6, hB6, hx6⟩
    case measure => simp [intOf]; omega
   | false =>
    go_wp2_with fail
    refine (rint_any wr (g + 1) aF cF _ _ 0 hO2 hBr (by omega) (by unfold I64ok; omega)).mono ?_
    rintro e w6 ⟨a6, c6, rfl, hA⟩
    have hel := encI_le (n := 0) (by unfold I64ok; omega)
    obtain ⟨F3, hF3, hl3, hO3⟩ := own_app hO2 hA
    rw [hl3]
    have hF3l : F3.length ≤ 40 + 10 * (i + 1) := by rw [← hl3]; omega
    have HF3 := Lib.hid (show F3 = F1 ++ (m.subs.take (i + 1)).flatMap (fun b => encI (bit1 b)) by rw [hF3, HF.out, HT.out, List.append_assoc]; rfl)
    have hC6 := hC.ext (msg_ne _ _) hA.ext (hO2.notBlk (by omega))
    have hx6 : Ext no w w6 := hx.trans hA.ext (fun k hk e => (hO2.notBlk (by omega) e).elim)
    have hB6 := Nat.le_trans hBr hA.ext.size
    clear hF3 hl3 hA
    go_wp2_with fail
    go_roundw
    case rel => exact ⟨i + 1, F3, a6, c6, by omega, by go_num, HF3.out, hF3l, rfl, hO3, hC6, hB6, hx6⟩
    case measure => simp [intOf]; omega
  ·have d1 : decide ((i : Int) < 3) = false := decF (by omega)
   have HEB := Lib.hid (show bodyEnc m = F by unfold bodyEnc; unfold restEnc; rw [if_neg (by omega), if_neg (by omega), if_pos hk]; rw [HF.out, HF1.out, HE.out, List.take_of_length_le (by omega), flat_subs]; simp only [List.append_assoc]; rfl)
   have hFl : F.length ≤ 32000 := by rw [← HEB.out]; exact hbl
   go_wp2_with fail
   refine (rframe_any wr aF cF F hO2.rd (by omega)).mono ?_
   rintro e wz ⟨aR, cR, rfl, hR, hy⟩
   have hwx := hx.size
   replace hx := hx.comp hy
   go_wp2_with fail
   go_ret2
   have hbf : bytesOf m = frame F := by rw [HB.out, HEB.out]
   exact ⟨aR, cR, by rw [hbf]; rfl, by rw [hbf]; exact hR.mono hwx, hx⟩
theorem refbytes_any (w : World) (m : MsgR) (h : MsgA) (hin : m.In w h) (hn : m.nice) : Calls Tryz.prog 6 #[m.val h] w (RBytesEnd w m) := by
 have hk := hn.kd
 rcases (show m.kind = 1 ∨ m.kind = 2 ∨ m.kind = 3 ∨ m.kind = 4 ∨ m.kind = 5 by omega) with e | e | e | e | e
 ·exact refbytes_1 w m h hin hn e
 ·exact refbytes_2 w m h hin hn e
 ·exact refbytes_3 w m h hin hn e
 ·exact refbytes_4 w m h hin hn e
 ·exact refbytes_5 w m h hin hn e
end Go.Proofs.YtddobhihjljcgaaGreat
