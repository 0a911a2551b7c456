/- The walk of WireKinds. -/
import Derived.Test.YtddobhihjljcgaaWiRd2
import Derived.Test.YtddobhihjljcgaaWiO
namespace Go.Proofs.Ytddobhihjljcgaa
open Go.RowKit Go.Esc
set_option linter.unusedVariables false
set_option linter.unusedSimpArgs false
theorem wp_opaque {P : Program} {l : List Oper} {Q : Exit → Act → World → Prop} {a : Act} {w : World} (h : ∀ OPS : Array Oper, OPS = l.toArray → wpList P OPS Q l a w) : wpList P l.toArray Q l a w := h _ rfl
theorem op_val {op : Oper} {a : Act} {w : World} {K : Act → World → Prop} {Q : Exit → Act → World → Prop} (v : Value) (hr : (execOp a.eval op).run Try.prog w = .ok (.value v) w) (hk : K (a.put op.dst v) w) : op.wp Try.prog a w K Q := by
  unfold Oper.wp
  simp only [hr]
  exact hk
theorem named_1 {m : MsgR} (h : m.kind = 1) : named m = { MsgR.zero with kind := 1, dev := m.dev, cmd := m.cmd } := by unfold named; simp [h]
theorem named_2 {m : MsgR} (h : m.kind = 2) : named m = { MsgR.zero with kind := 2, dev := m.dev, req := m.req, pos := m.pos, rep := m.rep } := by unfold named; simp [h]
theorem named_3 {m : MsgR} (h : m.kind = 3) : named m = { MsgR.zero with kind := 3, dev := m.dev, ver := m.ver, pos := m.pos, subs := m.subs } := by unfold named; simp [h]
theorem named_4 {m : MsgR} (h : m.kind = 4) : named m = { MsgR.zero with kind := 4, dev := m.dev, pos := m.pos, nxt := m.nxt, ops := m.ops } := by unfold named; simp [h]
theorem named_5 {m : MsgR} (h : m.kind = 5) : named m = { MsgR.zero with kind := 5, dev := m.dev, req := m.req, err := m.err } := by unfold named; simp [h]

set_option maxRecDepth 100000 in
set_option maxHeartbeats 40000000 in
theorem wkinds_walk (w : World) (m : MsgR) (h : MsgA) (hin : m.In w h) (hok : m.ok) :
    Calls Try.prog 4 #[m.val h] w fun e w' => e = .returned (.bool true) ∧ Ext no w w' := by
  go_enter Try.func4, Try.ntmps4
  go_upto_region 0 with fail
  refine wp_region_lit ?_
  refine wp_box_msg rfl rfl (by rfl) (fun hC => ?_)
  simp only [Act.put, List.setIfInBounds_toArray, List.set_cons_zero, List.set_cons_succ]
  have hxa := Ext.alloc no w (.cells (m.cells h).toArray 36)
  obtain ⟨g, hg⟩ : ∃ g, g = w.heap.size := ⟨_, rfl⟩
  rw [← hg] at hC ⊢
  have hgw : w.heap.size ≤ g := by omega
  clear hg
  generalize w.alloc (.cells (m.cells h).toArray 36) = w1 at *
  go_wp2_with fail
  refine (wiknown_any w1).mono ?_
  rintro e w2 ⟨rfl, hx2⟩
  have hC2 := hC.ext (msg_ne _ _) hx2 (fun h => h)
  have hxx2 := hxa.comp hx2
  clear hC hxa hx2
  go_upto_region 3 with fail
  refine wp_region_lit ?_
  refine wp_load_msg (m := m) (h := h) rfl rfl (by rfl) hC2 ?_
  simp only [Act.put, List.setIfInBounds_toArray, List.set_cons_zero, List.set_cons_succ]
  go_wp2_with fail
  refine (wifew_any w2 m h (hin.no hxx2) hok).mono ?_
  rintro e w3 ⟨bf, rfl, hbf, hx3⟩
  have hC3 := hC2.ext (msg_ne _ _) hx3 (fun h => h)
  have hxx3 := hxx2.comp hx3
  clear hC2 hxx2 hx3
  cases bf with
  | false =>
    go_wp2_with fail
    go_ret
    exact ⟨rfl, hxx3⟩
  | true =>
    have HF := Lib.hid (hbf rfl).1
    clear hbf
    go_upto_region 5 with fail
    refine wp_region_lit ?_
    refine wp_load_msg (m := m) (h := h) rfl rfl (by rfl) hC3 ?_
    simp only [Act.put, List.setIfInBounds_toArray, List.set_cons_zero, List.set_cons_succ]
    go_wp2_with fail
    refine (wigood_any w3 m h (hin.no hxx3) hok).mono ?_
    rintro e w4 ⟨hG, rfl, hGin, hx4, hGb, hGk⟩
    have hC4 := hC3.ext (msg_ne _ _) hx4 (fun h => h)
    have hxx4 := hxx3.comp hx4
    have hg3 := hC3.lt (msg_ne _ _)
    have hni := goodM_nice m hok HF.out
    rename_i hK
    dsimp only
    refine hK _ _ ?_
    clear hK hC3 hxx3 hx4 hGin hGb
    obtain ⟨M, hM⟩ : ∃ M, M = goodM m := ⟨_, rfl⟩
    rw [← hM] at hGk hni ⊢
    clear hM
    refine wp_store_msg (m := M) (h := hG) rfl rfl (by rfl) (by rfl) hC4 rfl (fun hC5 hx5 => ?_)
    simp only [Act.put, List.setIfInBounds_toArray, List.set_cons_zero, List.set_cons_succ]
    have hxx5 := hxx4.fresh hx5 hgw
    have hM5 := hGk (just g) _ hx5 (fun k hk => by have e : k = g := hk; omega) (hin.no hxx5)
    clear hGk hC4 hxx4 hx5
    generalize w4.setCells g 0 (M.cells hG) = w5 at *
    go_upto_region 6 with fail
    refine wp_region_lit ?_
    refine wp_load_msg (m := M) (h := hG) rfl rfl (by rfl) hC5 ?_
    simp only [Act.put, List.setIfInBounds_toArray, List.set_cons_zero, List.set_cons_succ]
    go_wp2_with fail
    refine (wbytes_any w5 M hG hM5 hni.ok hni.few).mono ?_
    rintro e w6 ⟨a, c, rfl, ho, hx6⟩
    rw [hni.bytes]
    have hBl := bodyEnc_le hni.ok hni.few
    have hfl := frame_length (bodyEnc M)
    have hpe := parse_enc M hni
    have hB : bytesOf M = frame (bodyEnc M) := by unfold bytesOf; rw [if_pos hni.bytes]
    obtain ⟨B, hBe⟩ : ∃ B, B = frame (bodyEnc M) := ⟨_, rfl⟩
    rw [← hBe] at hfl hB hpe
    rw [hB] at ho ⊢
    have hBl2 : B.length ≤ 1099511627776 := by omega
    have HPE := Lib.hid hpe
    clear hfl hBl
    have hC6 := hC5.ext (msg_ne _ _) hx6 (fun h => h)
    have hxx6 := hxx5.comp hx6
    clear hBe hB hpe hC5 hxx5 hx6 hM5
    go_wp2_with fail
    refine (wparse_any w6 a c B ho.rd hBl2 ho.nc).mono ?_
    rintro e w7 ⟨kx, rfl, hKp, hx7⟩
    have hC7 := hC6.ext (msg_ne _ _) hx7 (fun h => h)
    have hxx7 := hxx6.comp hx7
    rw [HPE.out.1, HPE.out.2]
    rename_i hK
    dsimp only
    refine hK _ _ ?_
    clear hK hKp hC6 hxx6 hx7
    obtain ⟨X, hX⟩ : ∃ X, X = named M := ⟨_, rfl⟩
    rw [← hX]
    refine wp_move (.tuple #[X.val kx, .int .i64 0]) rfl rfl (by rfl) ?_
    simp only [Act.put, List.setIfInBounds_toArray, List.set_cons_zero, List.set_cons_succ]
    refine wp_extract (vs := #[X.val kx, .int .i64 0]) (v := X.val kx) rfl rfl (by rfl) rfl ?_
    simp only [Act.put, List.setIfInBounds_toArray, List.set_cons_zero, List.set_cons_succ]
    refine wp_extract (vs := #[X.val kx, .int .i64 0]) (v := .int .i64 0) rfl rfl (by rfl) rfl ?_
    simp only [Act.put, List.setIfInBounds_toArray, List.set_cons_zero, List.set_cons_succ]
    refine wp_alloc_msg rfl rfl (fun hZ => ?_)
    simp only [Act.put, List.setIfInBounds_toArray, List.set_cons_zero, List.set_cons_succ]
    have hxc := Ext.alloc no w7 (.cells (MsgR.zero.cells MsgA.zero).toArray 36)
    have hC8 := hC7.ext (msg_ne _ _) hxc (fun h => h)
    have hgl := hC7.lt (msg_ne _ _)
    have hsz := hxx7.size
    obtain ⟨gx, hgx⟩ : ∃ v, v = w7.heap.size := ⟨_, rfl⟩
    rw [← hgx] at hZ ⊢
    have hggx : g < gx := by omega
    have hwx : w.heap.size ≤ gx := by omega
    clear hgx hgl hsz
    generalize w7.alloc (.cells (MsgR.zero.cells MsgA.zero).toArray 36) = w8 at *
    refine wp_store_msg (m := X) (h := kx) rfl rfl (by rfl) (by rfl) hZ rfl (fun hX9 hx9 => ?_)
    simp only [Act.put, List.setIfInBounds_toArray, List.set_cons_zero, List.set_cons_succ]
    have hC9 := hC8.ext (msg_ne _ _) hx9 (fun e => by have e : g = gx := e; omega)
    have hxx9 := (hxx7.comp hxc).fresh hx9 hwx
    clear hC7 hC8 hxc hx9 hxx7 hZ
    generalize w8.setCells gx 0 (X.cells kx) = w9 at *
    refine wp_assign (.int .i64 0) rfl rfl (by rfl) ?_
    simp only [Act.put, List.setIfInBounds_toArray, List.set_cons_zero, List.set_cons_succ]
    have hkd := hni.kd
    have HNI := Lib.hid hni
    rcases (show M.kind = 1 ∨ M.kind = 2 ∨ M.kind = 3 ∨ M.kind = 4 ∨ M.kind = 5 by omega) with hk | hk | hk | hk | hk
    · rw [named_1 hk] at hX
      rw [hX] at hX9
      have y0 : w9.cell? ⟨gx, 0, none⟩ = some (.int .i64 1) := hX9.cell 0 _ rfl
      have z0 : w9.cell? ⟨g, 0, none⟩ = some (.int .i64 1) := by have q := hC9.cell 0 _ rfl; rwa [hk] at q
      have y16 : w9.cell? ⟨gx, 16, none⟩ = some (.int .i64 0) := hX9.cell 16 _ rfl
      have y18 : w9.cell? ⟨gx, 18, none⟩ = some (.int .i64 0) := hX9.cell 18 _ rfl
      have y2 : w9.cell? ⟨gx, 2, none⟩ = some (.int .i64 0) := hX9.cell 2 _ rfl
      have y3 : w9.cell? ⟨gx, 3, none⟩ = some (.int .i64 0) := hX9.cell 3 _ rfl
      have y6 : w9.cell? ⟨gx, 6, none⟩ = some (.slice kx.b 0 kx.bc) := hX9.cell 6 _ rfl
      have y24 : w9.cell? ⟨gx, 24, none⟩ = some (.slice kx.o 0 kx.oc) := hX9.cell 24 _ rfl
      have y5 : w9.cell? ⟨gx, 5, none⟩ = some (.int .i64 0) := hX9.cell 5 _ rfl
      have y7 : w9.cell? ⟨gx, 7, none⟩ = some (.int .i64 0) := hX9.cell 7 _ rfl
      clear hX hX9 hC9 hk hkd
      go_upto_region 9 with fail
      refine wp_region_lit ?_
      simp only [List.append]
      refine wp_opaque fun OPS hOPS => ?_
      have HOPS := Lib.hid hOPS
      clear hOPS
      refine wpList_step fun K hK => ?_
      rw [if_pos (by rfl)]
      refine op_val (.int .i64 0) (by go_simp) (hK _ _ ?_)
      clear hK
      simp only [Act.put, List.setIfInBounds_toArray, List.set_cons_zero, List.set_cons_succ]
      refine wpList_step fun K hK => ?_
      rw [if_pos (by rfl)]
      refine op_val (.bool true) (by go_simp) (hK _ _ ?_)
      clear hK
      simp only [Act.put, List.setIfInBounds_toArray, List.set_cons_zero, List.set_cons_succ]
      refine wpList_step fun K hK => ?_
      rw [if_pos (by rfl)]
      refine op_val (.bool true) (by go_simp) (hK _ _ ?_)
      clear hK
      simp only [Act.put, List.setIfInBounds_toArray, List.set_cons_zero, List.set_cons_succ]
      refine wpList_step fun K hK => ?_
      rw [if_pos (by rw [HOPS.out]; rfl)]
      refine op_val (.int .i64 0) (by go_simp) (hK _ _ ?_)
      clear hK
      simp only [Act.put, List.setIfInBounds_toArray, List.set_cons_zero, List.set_cons_succ]
      refine wpList_step fun K hK => ?_
      rw [if_pos (by rw [HOPS.out]; rfl)]
      refine op_val (.bool true) (by go_simp) (hK _ _ ?_)
      clear hK
      simp only [Act.put, List.setIfInBounds_toArray, List.set_cons_zero, List.set_cons_succ]
      refine wpList_step fun K hK => ?_
      rw [if_pos (by rfl)]
      refine op_val (.bool true) (by go_simp) (hK _ _ ?_)
      clear hK
      simp only [Act.put, List.setIfInBounds_toArray, List.set_cons_zero, List.set_cons_succ]
      refine wpList_step fun K hK => ?_
      rw [if_pos (by rfl)]
      refine op_val (.bool true) (by go_simp) (hK _ _ ?_)
      clear hK
      simp only [Act.put, List.setIfInBounds_toArray, List.set_cons_zero, List.set_cons_succ]
      refine wpList_step fun K hK => ?_
      rw [if_pos (by rw [HOPS.out]; rfl)]
      refine op_val (.int .i64 1) (by go_simp) (hK _ _ ?_)
      clear hK
      simp only [Act.put, List.setIfInBounds_toArray, List.set_cons_zero, List.set_cons_succ]
      refine wpList_step fun K hK => ?_
      rw [if_pos (by rw [HOPS.out]; rfl)]
      refine op_val (.pointer (some ⟨g, 0, none⟩)) (by go_simp) (hK _ _ ?_)
      clear hK
      simp only [Act.put, List.setIfInBounds_toArray, List.set_cons_zero, List.set_cons_succ]
      refine wpList_step fun K hK => ?_
      rw [if_pos (by rw [HOPS.out]; rfl)]
      refine op_val (.int .i64 1) (by go_simp) (hK _ _ ?_)
      clear hK
      simp only [Act.put, List.setIfInBounds_toArray, List.set_cons_zero, List.set_cons_succ]
      refine wpList_step fun K hK => ?_
      rw [if_pos (by rw [HOPS.out]; rfl)]
      refine op_val (.bool true) (by go_simp) (hK _ _ ?_)
      clear hK
      simp only [Act.put, List.setIfInBounds_toArray, List.set_cons_zero, List.set_cons_succ]
      refine wpList_step fun K hK => ?_
      rw [if_pos (by rfl)]
      refine op_val (.bool true) (by go_simp) (hK _ _ ?_)
      clear hK
      simp only [Act.put, List.setIfInBounds_toArray, List.set_cons_zero, List.set_cons_succ]
      refine wpList_step fun K hK => ?_
      rw [if_pos (by rfl)]
      refine op_val (.bool true) (by go_simp) (hK _ _ ?_)
      clear hK
      simp only [Act.put, List.setIfInBounds_toArray, List.set_cons_zero, List.set_cons_succ]
      refine wpList_step fun K hK => ?_
      rw [if_pos (by rw [HOPS.out]; rfl)]
      refine op_val (.int .i64 1) (by go_simp) (hK _ _ ?_)
      clear hK
      simp only [Act.put, List.setIfInBounds_toArray, List.set_cons_zero, List.set_cons_succ]
      refine wpList_step fun K hK => ?_
      rw [if_pos (by rw [HOPS.out]; rfl)]
      refine op_val (.bool true) (by go_simp) (hK _ _ ?_)
      clear hK
      simp only [Act.put, List.setIfInBounds_toArray, List.set_cons_zero, List.set_cons_succ]
      refine wpList_step fun K hK => ?_
      rw [if_pos (by rw [HOPS.out]; rfl)]
      refine op_val (.bool true) (by go_simp) (hK _ _ ?_)
      clear hK
      simp only [Act.put, List.setIfInBounds_toArray, List.set_cons_zero, List.set_cons_succ]
      refine wpList_step fun K hK => ?_
      rw [if_neg (by rw [HOPS.out]; exact Bool.false_ne_true)]
      refine hK _ _ ?_
      clear hK
      simp only [Act.put, List.setIfInBounds_toArray, List.set_cons_zero, List.set_cons_succ]
      refine wpList_step fun K hK => ?_
      rw [if_neg (by rw [HOPS.out]; exact Bool.false_ne_true)]
      refine hK _ _ ?_
      clear hK
      simp only [Act.put, List.setIfInBounds_toArray, List.set_cons_zero, List.set_cons_succ]
      refine wpList_step fun K hK => ?_
      rw [if_neg (by rw [HOPS.out]; exact Bool.false_ne_true)]
      refine hK _ _ ?_
      clear hK
      simp only [Act.put, List.setIfInBounds_toArray, List.set_cons_zero, List.set_cons_succ]
      refine wpList_step fun K hK => ?_
      rw [if_neg (by rw [HOPS.out]; exact Bool.false_ne_true)]
      refine hK _ _ ?_
      clear hK
      simp only [Act.put, List.setIfInBounds_toArray, List.set_cons_zero, List.set_cons_succ]
      refine wpList_step fun K hK => ?_
      rw [if_neg (by rw [HOPS.out]; exact Bool.false_ne_true)]
      refine hK _ _ ?_
      clear hK
      simp only [Act.put, List.setIfInBounds_toArray, List.set_cons_zero, List.set_cons_succ]
      refine wpList_step fun K hK => ?_
      rw [if_neg (by rw [HOPS.out]; exact Bool.false_ne_true)]
      refine hK _ _ ?_
      clear hK
      simp only [Act.put, List.setIfInBounds_toArray, List.set_cons_zero, List.set_cons_succ]
      refine wpList_step fun K hK => ?_
      rw [if_neg (by rw [HOPS.out]; exact Bool.false_ne_true)]
      refine hK _ _ ?_
      clear hK
      simp only [Act.put, List.setIfInBounds_toArray, List.set_cons_zero, List.set_cons_succ]
      refine wpList_step fun K hK => ?_
      rw [if_neg (by rw [HOPS.out]; exact Bool.false_ne_true)]
      refine hK _ _ ?_
      clear hK
      simp only [Act.put, List.setIfInBounds_toArray, List.set_cons_zero, List.set_cons_succ]
      refine wpList_step fun K hK => ?_
      rw [if_neg (by rw [HOPS.out]; exact Bool.false_ne_true)]
      refine hK _ _ ?_
      clear hK
      simp only [Act.put, List.setIfInBounds_toArray, List.set_cons_zero, List.set_cons_succ]
      refine wpList_step fun K hK => ?_
      rw [if_neg (by rw [HOPS.out]; exact Bool.false_ne_true)]
      refine hK _ _ ?_
      clear hK
      simp only [Act.put, List.setIfInBounds_toArray, List.set_cons_zero, List.set_cons_succ]
      refine wpList_step fun K hK => ?_
      rw [if_neg (by rw [HOPS.out]; exact Bool.false_ne_true)]
      refine hK _ _ ?_
      clear hK
      simp only [Act.put, List.setIfInBounds_toArray, List.set_cons_zero, List.set_cons_succ]
      refine wpList_step fun K hK => ?_
      rw [if_pos (by rw [HOPS.out]; rfl)]
      refine op_val (.bool true) (by go_simp) (hK _ _ ?_)
      clear hK
      simp only [Act.put, List.setIfInBounds_toArray, List.set_cons_zero, List.set_cons_succ]
      refine wpList_step fun K hK => ?_
      rw [if_pos (by rfl)]
      refine op_val (.bool true) (by go_simp) (hK _ _ ?_)
      clear hK
      simp only [Act.put, List.setIfInBounds_toArray, List.set_cons_zero, List.set_cons_succ]
      refine wpList_step fun K hK => ?_
      rw [if_pos (by rfl)]
      refine op_val (.bool true) (by go_simp) (hK _ _ ?_)
      clear hK
      simp only [Act.put, List.setIfInBounds_toArray, List.set_cons_zero, List.set_cons_succ]
      refine wpList_step fun K hK => ?_
      rw [if_pos (by rw [HOPS.out]; rfl)]
      refine op_val (.int .i64 1) (by go_simp) (hK _ _ ?_)
      clear hK
      simp only [Act.put, List.setIfInBounds_toArray, List.set_cons_zero, List.set_cons_succ]
      refine wpList_step fun K hK => ?_
      rw [if_pos (by rw [HOPS.out]; rfl)]
      refine op_val (.bool false) (by go_simp) (hK _ _ ?_)
      clear hK
      simp only [Act.put, List.setIfInBounds_toArray, List.set_cons_zero, List.set_cons_succ]
      refine wpList_step fun K hK => ?_
      rw [if_pos (by rw [HOPS.out]; rfl)]
      refine op_val (.bool false) (by go_simp) (hK _ _ ?_)
      clear hK
      simp only [Act.put, List.setIfInBounds_toArray, List.set_cons_zero, List.set_cons_succ]
      refine wpList_step fun K hK => ?_
      rw [if_pos (by rw [HOPS.out]; rfl)]
      refine op_val (.pointer (some ⟨gx, 15, none⟩)) (by go_simp) (hK _ _ ?_)
      clear hK
      simp only [Act.put, List.setIfInBounds_toArray, List.set_cons_zero, List.set_cons_succ]
      refine wpList_step fun K hK => ?_
      rw [if_pos (by rw [HOPS.out]; rfl)]
      refine op_val (.pointer (some ⟨gx, 16, none⟩)) (by go_simp) (hK _ _ ?_)
      clear hK
      simp only [Act.put, List.setIfInBounds_toArray, List.set_cons_zero, List.set_cons_succ]
      refine wpList_step fun K hK => ?_
      rw [if_pos (by rw [HOPS.out]; rfl)]
      refine op_val (.int .i64 0) (by go_simp) (hK _ _ ?_)
      clear hK
      simp only [Act.put, List.setIfInBounds_toArray, List.set_cons_zero, List.set_cons_succ]
      refine wpList_step fun K hK => ?_
      rw [if_pos (by rw [HOPS.out]; rfl)]
      refine op_val (.bool true) (by go_simp) (hK _ _ ?_)
      clear hK
      simp only [Act.put, List.setIfInBounds_toArray, List.set_cons_zero, List.set_cons_succ]
      refine wpList_step fun K hK => ?_
      rw [if_pos (by rw [HOPS.out]; rfl)]
      refine op_val (.bool true) (by go_simp) (hK _ _ ?_)
      clear hK
      simp only [Act.put, List.setIfInBounds_toArray, List.set_cons_zero, List.set_cons_succ]
      refine wpList_step fun K hK => ?_
      rw [if_pos (by rw [HOPS.out]; rfl)]
      refine op_val (.pointer (some ⟨gx, 15, none⟩)) (by go_simp) (hK _ _ ?_)
      clear hK
      simp only [Act.put, List.setIfInBounds_toArray, List.set_cons_zero, List.set_cons_succ]
      refine wpList_step fun K hK => ?_
      rw [if_pos (by rw [HOPS.out]; rfl)]
      refine op_val (.pointer (some ⟨gx, 17, none⟩)) (by go_simp) (hK _ _ ?_)
      clear hK
      simp only [Act.put, List.setIfInBounds_toArray, List.set_cons_zero, List.set_cons_succ]
      refine wpList_step fun K hK => ?_
      rw [if_pos (by rw [HOPS.out]; rfl)]
      refine op_val (.pointer (some ⟨gx, 18, none⟩)) (by go_simp) (hK _ _ ?_)
      clear hK
      simp only [Act.put, List.setIfInBounds_toArray, List.set_cons_zero, List.set_cons_succ]
      refine wpList_step fun K hK => ?_
      rw [if_pos (by rw [HOPS.out]; rfl)]
      refine op_val (.int .i64 0) (by go_simp) (hK _ _ ?_)
      clear hK
      simp only [Act.put, List.setIfInBounds_toArray, List.set_cons_zero, List.set_cons_succ]
      refine wpList_step fun K hK => ?_
      rw [if_pos (by rw [HOPS.out]; rfl)]
      refine op_val (.bool true) (by go_simp) (hK _ _ ?_)
      clear hK
      simp only [Act.put, List.setIfInBounds_toArray, List.set_cons_zero, List.set_cons_succ]
      refine wpList_step fun K hK => ?_
      rw [if_pos (by rw [HOPS.out]; rfl)]
      refine op_val (.bool true) (by go_simp) (hK _ _ ?_)
      clear hK
      simp only [Act.put, List.setIfInBounds_toArray, List.set_cons_zero, List.set_cons_succ]
      refine wpList_step fun K hK => ?_
      rw [if_pos (by rw [HOPS.out]; rfl)]
      refine op_val (.bool true) (by go_simp) (hK _ _ ?_)
      clear hK
      simp only [Act.put, List.setIfInBounds_toArray, List.set_cons_zero, List.set_cons_succ]
      refine wpList_step fun K hK => ?_
      rw [if_pos (by rfl)]
      refine op_val (.bool true) (by go_simp) (hK _ _ ?_)
      clear hK
      simp only [Act.put, List.setIfInBounds_toArray, List.set_cons_zero, List.set_cons_succ]
      refine wpList_step fun K hK => ?_
      rw [if_pos (by rfl)]
      refine op_val (.bool true) (by go_simp) (hK _ _ ?_)
      clear hK
      simp only [Act.put, List.setIfInBounds_toArray, List.set_cons_zero, List.set_cons_succ]
      refine wpList_step fun K hK => ?_
      rw [if_pos (by rw [HOPS.out]; rfl)]
      refine op_val (.int .i64 1) (by go_simp) (hK _ _ ?_)
      clear hK
      simp only [Act.put, List.setIfInBounds_toArray, List.set_cons_zero, List.set_cons_succ]
      refine wpList_step fun K hK => ?_
      rw [if_pos (by rw [HOPS.out]; rfl)]
      refine op_val (.bool false) (by go_simp) (hK _ _ ?_)
      clear hK
      simp only [Act.put, List.setIfInBounds_toArray, List.set_cons_zero, List.set_cons_succ]
      refine wpList_step fun K hK => ?_
      rw [if_pos (by rw [HOPS.out]; rfl)]
      refine op_val (.bool false) (by go_simp) (hK _ _ ?_)
      clear hK
      simp only [Act.put, List.setIfInBounds_toArray, List.set_cons_zero, List.set_cons_succ]
      refine wpList_step fun K hK => ?_
      rw [if_pos (by rw [HOPS.out]; rfl)]
      refine op_val (.int .i64 1) (by go_simp) (hK _ _ ?_)
      clear hK
      simp only [Act.put, List.setIfInBounds_toArray, List.set_cons_zero, List.set_cons_succ]
      refine wpList_step fun K hK => ?_
      rw [if_pos (by rw [HOPS.out]; rfl)]
      refine op_val (.bool false) (by go_simp) (hK _ _ ?_)
      clear hK
      simp only [Act.put, List.setIfInBounds_toArray, List.set_cons_zero, List.set_cons_succ]
      refine wpList_step fun K hK => ?_
      rw [if_pos (by rw [HOPS.out]; rfl)]
      refine op_val (.bool false) (by go_simp) (hK _ _ ?_)
      clear hK
      simp only [Act.put, List.setIfInBounds_toArray, List.set_cons_zero, List.set_cons_succ]
      refine wpList_step fun K hK => ?_
      rw [if_pos (by rw [HOPS.out]; rfl)]
      refine op_val (.bool false) (by go_simp) (hK _ _ ?_)
      clear hK
      simp only [Act.put, List.setIfInBounds_toArray, List.set_cons_zero, List.set_cons_succ]
      refine wpList_step fun K hK => ?_
      rw [if_pos (by rw [HOPS.out]; rfl)]
      refine op_val (.pointer (some ⟨gx, 2, none⟩)) (by go_simp) (hK _ _ ?_)
      clear hK
      simp only [Act.put, List.setIfInBounds_toArray, List.set_cons_zero, List.set_cons_succ]
      refine wpList_step fun K hK => ?_
      rw [if_pos (by rw [HOPS.out]; rfl)]
      refine op_val (.int .i64 0) (by go_simp) (hK _ _ ?_)
      clear hK
      simp only [Act.put, List.setIfInBounds_toArray, List.set_cons_zero, List.set_cons_succ]
      refine wpList_step fun K hK => ?_
      rw [if_pos (by rw [HOPS.out]; rfl)]
      refine op_val (.bool true) (by go_simp) (hK _ _ ?_)
      clear hK
      simp only [Act.put, List.setIfInBounds_toArray, List.set_cons_zero, List.set_cons_succ]
      refine wpList_step fun K hK => ?_
      rw [if_pos (by rw [HOPS.out]; rfl)]
      refine op_val (.bool true) (by go_simp) (hK _ _ ?_)
      clear hK
      simp only [Act.put, List.setIfInBounds_toArray, List.set_cons_zero, List.set_cons_succ]
      refine wpList_step fun K hK => ?_
      rw [if_pos (by rfl)]
      refine op_val (.bool true) (by go_simp) (hK _ _ ?_)
      clear hK
      simp only [Act.put, List.setIfInBounds_toArray, List.set_cons_zero, List.set_cons_succ]
      refine wpList_step fun K hK => ?_
      rw [if_pos (by rfl)]
      refine op_val (.bool true) (by go_simp) (hK _ _ ?_)
      clear hK
      simp only [Act.put, List.setIfInBounds_toArray, List.set_cons_zero, List.set_cons_succ]
      refine wpList_step fun K hK => ?_
      rw [if_pos (by rw [HOPS.out]; rfl)]
      refine op_val (.int .i64 1) (by go_simp) (hK _ _ ?_)
      clear hK
      simp only [Act.put, List.setIfInBounds_toArray, List.set_cons_zero, List.set_cons_succ]
      refine wpList_step fun K hK => ?_
      rw [if_pos (by rw [HOPS.out]; rfl)]
      refine op_val (.bool false) (by go_simp) (hK _ _ ?_)
      clear hK
      simp only [Act.put, List.setIfInBounds_toArray, List.set_cons_zero, List.set_cons_succ]
      refine wpList_step fun K hK => ?_
      rw [if_pos (by rw [HOPS.out]; rfl)]
      refine op_val (.bool false) (by go_simp) (hK _ _ ?_)
      clear hK
      simp only [Act.put, List.setIfInBounds_toArray, List.set_cons_zero, List.set_cons_succ]
      refine wpList_step fun K hK => ?_
      rw [if_pos (by rw [HOPS.out]; rfl)]
      refine op_val (.pointer (some ⟨gx, 3, none⟩)) (by go_simp) (hK _ _ ?_)
      clear hK
      simp only [Act.put, List.setIfInBounds_toArray, List.set_cons_zero, List.set_cons_succ]
      refine wpList_step fun K hK => ?_
      rw [if_pos (by rw [HOPS.out]; rfl)]
      refine op_val (.int .i64 0) (by go_simp) (hK _ _ ?_)
      clear hK
      simp only [Act.put, List.setIfInBounds_toArray, List.set_cons_zero, List.set_cons_succ]
      refine wpList_step fun K hK => ?_
      rw [if_pos (by rw [HOPS.out]; rfl)]
      refine op_val (.bool true) (by go_simp) (hK _ _ ?_)
      clear hK
      simp only [Act.put, List.setIfInBounds_toArray, List.set_cons_zero, List.set_cons_succ]
      refine wpList_step fun K hK => ?_
      rw [if_pos (by rw [HOPS.out]; rfl)]
      refine op_val (.bool true) (by go_simp) (hK _ _ ?_)
      clear hK
      simp only [Act.put, List.setIfInBounds_toArray, List.set_cons_zero, List.set_cons_succ]
      refine wpList_step fun K hK => ?_
      rw [if_pos (by rw [HOPS.out]; rfl)]
      refine op_val (.pointer (some ⟨gx, 6, none⟩)) (by go_simp) (hK _ _ ?_)
      clear hK
      simp only [Act.put, List.setIfInBounds_toArray, List.set_cons_zero, List.set_cons_succ]
      refine wpList_step fun K hK => ?_
      rw [if_pos (by rw [HOPS.out]; rfl)]
      refine op_val (.slice kx.b 0 kx.bc) (by go_simp) (hK _ _ ?_)
      clear hK
      simp only [Act.put, List.setIfInBounds_toArray, List.set_cons_zero, List.set_cons_succ]
      refine wpList_step fun K hK => ?_
      rw [if_pos (by rw [HOPS.out]; rfl)]
      refine op_val (.int .i64 0) (by go_simp) (hK _ _ ?_)
      clear hK
      simp only [Act.put, List.setIfInBounds_toArray, List.set_cons_zero, List.set_cons_succ]
      refine wpList_step fun K hK => ?_
      rw [if_pos (by rw [HOPS.out]; rfl)]
      refine op_val (.bool true) (by go_simp) (hK _ _ ?_)
      clear hK
      simp only [Act.put, List.setIfInBounds_toArray, List.set_cons_zero, List.set_cons_succ]
      refine wpList_step fun K hK => ?_
      rw [if_pos (by rw [HOPS.out]; rfl)]
      refine op_val (.bool true) (by go_simp) (hK _ _ ?_)
      clear hK
      simp only [Act.put, List.setIfInBounds_toArray, List.set_cons_zero, List.set_cons_succ]
      refine wpList_step fun K hK => ?_
      rw [if_pos (by rw [HOPS.out]; rfl)]
      refine op_val (.bool true) (by go_simp) (hK _ _ ?_)
      clear hK
      simp only [Act.put, List.setIfInBounds_toArray, List.set_cons_zero, List.set_cons_succ]
      refine wpList_step fun K hK => ?_
      rw [if_pos (by rfl)]
      refine op_val (.bool true) (by go_simp) (hK _ _ ?_)
      clear hK
      simp only [Act.put, List.setIfInBounds_toArray, List.set_cons_zero, List.set_cons_succ]
      refine wpList_step fun K hK => ?_
      rw [if_pos (by rfl)]
      refine op_val (.bool true) (by go_simp) (hK _ _ ?_)
      clear hK
      simp only [Act.put, List.setIfInBounds_toArray, List.set_cons_zero, List.set_cons_succ]
      refine wpList_step fun K hK => ?_
      rw [if_pos (by rw [HOPS.out]; rfl)]
      refine op_val (.int .i64 1) (by go_simp) (hK _ _ ?_)
      clear hK
      simp only [Act.put, List.setIfInBounds_toArray, List.set_cons_zero, List.set_cons_succ]
      refine wpList_step fun K hK => ?_
      rw [if_pos (by rw [HOPS.out]; rfl)]
      refine op_val (.bool false) (by go_simp) (hK _ _ ?_)
      clear hK
      simp only [Act.put, List.setIfInBounds_toArray, List.set_cons_zero, List.set_cons_succ]
      refine wpList_step fun K hK => ?_
      rw [if_pos (by rw [HOPS.out]; rfl)]
      refine op_val (.bool false) (by go_simp) (hK _ _ ?_)
      clear hK
      simp only [Act.put, List.setIfInBounds_toArray, List.set_cons_zero, List.set_cons_succ]
      refine wpList_step fun K hK => ?_
      rw [if_pos (by rw [HOPS.out]; rfl)]
      refine op_val (.pointer (some ⟨gx, 24, none⟩)) (by go_simp) (hK _ _ ?_)
      clear hK
      simp only [Act.put, List.setIfInBounds_toArray, List.set_cons_zero, List.set_cons_succ]
      refine wpList_step fun K hK => ?_
      rw [if_pos (by rw [HOPS.out]; rfl)]
      refine op_val (.slice kx.o 0 kx.oc) (by go_simp) (hK _ _ ?_)
      clear hK
      simp only [Act.put, List.setIfInBounds_toArray, List.set_cons_zero, List.set_cons_succ]
      refine wpList_step fun K hK => ?_
      rw [if_pos (by rw [HOPS.out]; rfl)]
      refine op_val (.int .i64 0) (by go_simp) (hK _ _ ?_)
      clear hK
      simp only [Act.put, List.setIfInBounds_toArray, List.set_cons_zero, List.set_cons_succ]
      refine wpList_step fun K hK => ?_
      rw [if_pos (by rw [HOPS.out]; rfl)]
      refine op_val (.bool true) (by go_simp) (hK _ _ ?_)
      clear hK
      simp only [Act.put, List.setIfInBounds_toArray, List.set_cons_zero, List.set_cons_succ]
      refine wpList_step fun K hK => ?_
      rw [if_pos (by rw [HOPS.out]; rfl)]
      refine op_val (.bool true) (by go_simp) (hK _ _ ?_)
      clear hK
      simp only [Act.put, List.setIfInBounds_toArray, List.set_cons_zero, List.set_cons_succ]
      refine wpList_step fun K hK => ?_
      rw [if_pos (by rw [HOPS.out]; rfl)]
      refine op_val (.pointer (some ⟨gx, 5, none⟩)) (by go_simp) (hK _ _ ?_)
      clear hK
      simp only [Act.put, List.setIfInBounds_toArray, List.set_cons_zero, List.set_cons_succ]
      refine wpList_step fun K hK => ?_
      rw [if_pos (by rw [HOPS.out]; rfl)]
      refine op_val (.int .i64 0) (by go_simp) (hK _ _ ?_)
      clear hK
      simp only [Act.put, List.setIfInBounds_toArray, List.set_cons_zero, List.set_cons_succ]
      refine wpList_step fun K hK => ?_
      rw [if_pos (by rw [HOPS.out]; rfl)]
      refine op_val (.bool true) (by go_simp) (hK _ _ ?_)
      clear hK
      simp only [Act.put, List.setIfInBounds_toArray, List.set_cons_zero, List.set_cons_succ]
      refine wpList_step fun K hK => ?_
      rw [if_pos (by rw [HOPS.out]; rfl)]
      refine op_val (.bool true) (by go_simp) (hK _ _ ?_)
      clear hK
      simp only [Act.put, List.setIfInBounds_toArray, List.set_cons_zero, List.set_cons_succ]
      refine wpList_step fun K hK => ?_
      rw [if_pos (by rw [HOPS.out]; rfl)]
      refine op_val (.bool true) (by go_simp) (hK _ _ ?_)
      clear hK
      simp only [Act.put, List.setIfInBounds_toArray, List.set_cons_zero, List.set_cons_succ]
      refine wpList_step fun K hK => ?_
      rw [if_pos (by rfl)]
      refine op_val (.bool true) (by go_simp) (hK _ _ ?_)
      clear hK
      simp only [Act.put, List.setIfInBounds_toArray, List.set_cons_zero, List.set_cons_succ]
      refine wpList_step fun K hK => ?_
      rw [if_pos (by rfl)]
      refine op_val (.bool true) (by go_simp) (hK _ _ ?_)
      clear hK
      simp only [Act.put, List.setIfInBounds_toArray, List.set_cons_zero, List.set_cons_succ]
      refine wpList_step fun K hK => ?_
      rw [if_pos (by rw [HOPS.out]; rfl)]
      refine op_val (.int .i64 1) (by go_simp) (hK _ _ ?_)
      clear hK
      simp only [Act.put, List.setIfInBounds_toArray, List.set_cons_zero, List.set_cons_succ]
      refine wpList_step fun K hK => ?_
      rw [if_pos (by rw [HOPS.out]; rfl)]
      refine op_val (.bool false) (by go_simp) (hK _ _ ?_)
      clear hK
      simp only [Act.put, List.setIfInBounds_toArray, List.set_cons_zero, List.set_cons_succ]
      refine wpList_step fun K hK => ?_
      rw [if_pos (by rw [HOPS.out]; rfl)]
      refine op_val (.bool false) (by go_simp) (hK _ _ ?_)
      clear hK
      simp only [Act.put, List.setIfInBounds_toArray, List.set_cons_zero, List.set_cons_succ]
      refine wpList_step fun K hK => ?_
      rw [if_pos (by rw [HOPS.out]; rfl)]
      refine op_val (.pointer (some ⟨gx, 7, none⟩)) (by go_simp) (hK _ _ ?_)
      clear hK
      simp only [Act.put, List.setIfInBounds_toArray, List.set_cons_zero, List.set_cons_succ]
      refine wpList_step fun K hK => ?_
      rw [if_pos (by rw [HOPS.out]; rfl)]
      refine op_val (.int .i64 0) (by go_simp) (hK _ _ ?_)
      clear hK
      simp only [Act.put, List.setIfInBounds_toArray, List.set_cons_zero, List.set_cons_succ]
      refine wpList_step fun K hK => ?_
      rw [if_pos (by rw [HOPS.out]; rfl)]
      refine op_val (.bool true) (by go_simp) (hK _ _ ?_)
      clear hK
      simp only [Act.put, List.setIfInBounds_toArray, List.set_cons_zero, List.set_cons_succ]
      refine wpList_step fun K hK => ?_
      rw [if_pos (by rw [HOPS.out]; rfl)]
      refine op_val (.bool true) (by go_simp) (hK _ _ ?_)
      clear hK
      simp only [Act.put, List.setIfInBounds_toArray, List.set_cons_zero, List.set_cons_succ]
      refine wpList_step fun K hK => ?_
      rw [if_pos (by rfl)]
      refine op_val (.bool true) (by go_simp) (hK _ _ ?_)
      clear hK
      simp only [Act.put, List.setIfInBounds_toArray, List.set_cons_zero, List.set_cons_succ]
      refine wpList_step fun K hK => ?_
      rw [if_pos (by rfl)]
      refine op_val (.bool true) (by go_simp) (hK _ _ ?_)
      clear hK
      simp only [Act.put, List.setIfInBounds_toArray, List.set_cons_zero, List.set_cons_succ]
      go_wp2_with fail
      go_ret
      exact ⟨rfl, hxx9⟩
    · rw [named_2 hk] at hX
      rw [hX] at hX9
      have y0 : w9.cell? ⟨gx, 0, none⟩ = some (.int .i64 2) := hX9.cell 0 _ rfl
      have z0 : w9.cell? ⟨g, 0, none⟩ = some (.int .i64 2) := by have q := hC9.cell 0 _ rfl; rwa [hk] at q
      have y8 : w9.cell? ⟨gx, 8, none⟩ = some (.int .i64 0) := hX9.cell 8 _ rfl
      have y14 : w9.cell? ⟨gx, 14, none⟩ = some (.slice kx.c.o 0 kx.c.oc) := hX9.cell 14 _ rfl
      have y3 : w9.cell? ⟨gx, 3, none⟩ = some (.int .i64 0) := hX9.cell 3 _ rfl
      have y6 : w9.cell? ⟨gx, 6, none⟩ = some (.slice kx.b 0 kx.bc) := hX9.cell 6 _ rfl
      have y24 : w9.cell? ⟨gx, 24, none⟩ = some (.slice kx.o 0 kx.oc) := hX9.cell 24 _ rfl
      have y5 : w9.cell? ⟨gx, 5, none⟩ = some (.int .i64 0) := hX9.cell 5 _ rfl
      have y7 : w9.cell? ⟨gx, 7, none⟩ = some (.int .i64 0) := hX9.cell 7 _ rfl
      clear hX hX9 hC9 hk hkd
      go_upto_region 9 with fail
      refine wp_region_lit ?_
      simp only [List.append]
      refine wp_opaque fun OPS hOPS => ?_
      have HOPS := Lib.hid hOPS
      clear hOPS
      refine wpList_step fun K hK => ?_
      rw [if_pos (by rfl)]
      refine op_val (.int .i64 0) (by go_simp) (hK _ _ ?_)
      clear hK
      simp only [Act.put, List.setIfInBounds_toArray, List.set_cons_zero, List.set_cons_succ]
      refine wpList_step fun K hK => ?_
      rw [if_pos (by rfl)]
      refine op_val (.bool true) (by go_simp) (hK _ _ ?_)
      clear hK
      simp only [Act.put, List.setIfInBounds_toArray, List.set_cons_zero, List.set_cons_succ]
      refine wpList_step fun K hK => ?_
      rw [if_pos (by rfl)]
      refine op_val (.bool true) (by go_simp) (hK _ _ ?_)
      clear hK
      simp only [Act.put, List.setIfInBounds_toArray, List.set_cons_zero, List.set_cons_succ]
      refine wpList_step fun K hK => ?_
      rw [if_pos (by rw [HOPS.out]; rfl)]
      refine op_val (.int .i64 0) (by go_simp) (hK _ _ ?_)
      clear hK
      simp only [Act.put, List.setIfInBounds_toArray, List.set_cons_zero, List.set_cons_succ]
      refine wpList_step fun K hK => ?_
      rw [if_pos (by rw [HOPS.out]; rfl)]
      refine op_val (.bool true) (by go_simp) (hK _ _ ?_)
      clear hK
      simp only [Act.put, List.setIfInBounds_toArray, List.set_cons_zero, List.set_cons_succ]
      refine wpList_step fun K hK => ?_
      rw [if_pos (by rfl)]
      refine op_val (.bool true) (by go_simp) (hK _ _ ?_)
      clear hK
      simp only [Act.put, List.setIfInBounds_toArray, List.set_cons_zero, List.set_cons_succ]
      refine wpList_step fun K hK => ?_
      rw [if_pos (by rfl)]
      refine op_val (.bool true) (by go_simp) (hK _ _ ?_)
      clear hK
      simp only [Act.put, List.setIfInBounds_toArray, List.set_cons_zero, List.set_cons_succ]
      refine wpList_step fun K hK => ?_
      rw [if_pos (by rw [HOPS.out]; rfl)]
      refine op_val (.int .i64 2) (by go_simp) (hK _ _ ?_)
      clear hK
      simp only [Act.put, List.setIfInBounds_toArray, List.set_cons_zero, List.set_cons_succ]
      refine wpList_step fun K hK => ?_
      rw [if_pos (by rw [HOPS.out]; rfl)]
      refine op_val (.pointer (some ⟨g, 0, none⟩)) (by go_simp) (hK _ _ ?_)
      clear hK
      simp only [Act.put, List.setIfInBounds_toArray, List.set_cons_zero, List.set_cons_succ]
      refine wpList_step fun K hK => ?_
      rw [if_pos (by rw [HOPS.out]; rfl)]
      refine op_val (.int .i64 2) (by go_simp) (hK _ _ ?_)
      clear hK
      simp only [Act.put, List.setIfInBounds_toArray, List.set_cons_zero, List.set_cons_succ]
      refine wpList_step fun K hK => ?_
      rw [if_pos (by rw [HOPS.out]; rfl)]
      refine op_val (.bool true) (by go_simp) (hK _ _ ?_)
      clear hK
      simp only [Act.put, List.setIfInBounds_toArray, List.set_cons_zero, List.set_cons_succ]
      refine wpList_step fun K hK => ?_
      rw [if_pos (by rfl)]
      refine op_val (.bool true) (by go_simp) (hK _ _ ?_)
      clear hK
      simp only [Act.put, List.setIfInBounds_toArray, List.set_cons_zero, List.set_cons_succ]
      refine wpList_step fun K hK => ?_
      rw [if_pos (by rfl)]
      refine op_val (.bool true) (by go_simp) (hK _ _ ?_)
      clear hK
      simp only [Act.put, List.setIfInBounds_toArray, List.set_cons_zero, List.set_cons_succ]
      refine wpList_step fun K hK => ?_
      rw [if_pos (by rw [HOPS.out]; rfl)]
      refine op_val (.int .i64 2) (by go_simp) (hK _ _ ?_)
      clear hK
      simp only [Act.put, List.setIfInBounds_toArray, List.set_cons_zero, List.set_cons_succ]
      refine wpList_step fun K hK => ?_
      rw [if_pos (by rw [HOPS.out]; rfl)]
      refine op_val (.bool false) (by go_simp) (hK _ _ ?_)
      clear hK
      simp only [Act.put, List.setIfInBounds_toArray, List.set_cons_zero, List.set_cons_succ]
      refine wpList_step fun K hK => ?_
      rw [if_pos (by rw [HOPS.out]; rfl)]
      refine op_val (.bool false) (by go_simp) (hK _ _ ?_)
      clear hK
      simp only [Act.put, List.setIfInBounds_toArray, List.set_cons_zero, List.set_cons_succ]
      refine wpList_step fun K hK => ?_
      rw [if_pos (by rw [HOPS.out]; rfl)]
      refine op_val (.pointer (some ⟨gx, 8, none⟩)) (by go_simp) (hK _ _ ?_)
      clear hK
      simp only [Act.put, List.setIfInBounds_toArray, List.set_cons_zero, List.set_cons_succ]
      refine wpList_step fun K hK => ?_
      rw [if_pos (by rw [HOPS.out]; rfl)]
      refine op_val (.pointer (some ⟨gx, 8, none⟩)) (by go_simp) (hK _ _ ?_)
      clear hK
      simp only [Act.put, List.setIfInBounds_toArray, List.set_cons_zero, List.set_cons_succ]
      refine wpList_step fun K hK => ?_
      rw [if_pos (by rw [HOPS.out]; rfl)]
      refine op_val (.int .i64 0) (by go_simp) (hK _ _ ?_)
      clear hK
      simp only [Act.put, List.setIfInBounds_toArray, List.set_cons_zero, List.set_cons_succ]
      refine wpList_step fun K hK => ?_
      rw [if_pos (by rw [HOPS.out]; rfl)]
      refine op_val (.bool true) (by go_simp) (hK _ _ ?_)
      clear hK
      simp only [Act.put, List.setIfInBounds_toArray, List.set_cons_zero, List.set_cons_succ]
      refine wpList_step fun K hK => ?_
      rw [if_pos (by rw [HOPS.out]; rfl)]
      refine op_val (.bool true) (by go_simp) (hK _ _ ?_)
      clear hK
      simp only [Act.put, List.setIfInBounds_toArray, List.set_cons_zero, List.set_cons_succ]
      refine wpList_step fun K hK => ?_
      rw [if_pos (by rw [HOPS.out]; rfl)]
      refine op_val (.pointer (some ⟨gx, 8, none⟩)) (by go_simp) (hK _ _ ?_)
      clear hK
      simp only [Act.put, List.setIfInBounds_toArray, List.set_cons_zero, List.set_cons_succ]
      refine wpList_step fun K hK => ?_
      rw [if_pos (by rw [HOPS.out]; rfl)]
      refine op_val (.pointer (some ⟨gx, 14, none⟩)) (by go_simp) (hK _ _ ?_)
      clear hK
      simp only [Act.put, List.setIfInBounds_toArray, List.set_cons_zero, List.set_cons_succ]
      refine wpList_step fun K hK => ?_
      rw [if_pos (by rw [HOPS.out]; rfl)]
      refine op_val (.slice kx.c.o 0 kx.c.oc) (by go_simp) (hK _ _ ?_)
      clear hK
      simp only [Act.put, List.setIfInBounds_toArray, List.set_cons_zero, List.set_cons_succ]
      refine wpList_step fun K hK => ?_
      rw [if_pos (by rw [HOPS.out]; rfl)]
      refine op_val (.int .i64 0) (by go_simp) (hK _ _ ?_)
      clear hK
      simp only [Act.put, List.setIfInBounds_toArray, List.set_cons_zero, List.set_cons_succ]
      refine wpList_step fun K hK => ?_
      rw [if_pos (by rw [HOPS.out]; rfl)]
      refine op_val (.bool true) (by go_simp) (hK _ _ ?_)
      clear hK
      simp only [Act.put, List.setIfInBounds_toArray, List.set_cons_zero, List.set_cons_succ]
      refine wpList_step fun K hK => ?_
      rw [if_pos (by rw [HOPS.out]; rfl)]
      refine op_val (.bool true) (by go_simp) (hK _ _ ?_)
      clear hK
      simp only [Act.put, List.setIfInBounds_toArray, List.set_cons_zero, List.set_cons_succ]
      refine wpList_step fun K hK => ?_
      rw [if_pos (by rw [HOPS.out]; rfl)]
      refine op_val (.bool true) (by go_simp) (hK _ _ ?_)
      clear hK
      simp only [Act.put, List.setIfInBounds_toArray, List.set_cons_zero, List.set_cons_succ]
      refine wpList_step fun K hK => ?_
      rw [if_pos (by rfl)]
      refine op_val (.bool true) (by go_simp) (hK _ _ ?_)
      clear hK
      simp only [Act.put, List.setIfInBounds_toArray, List.set_cons_zero, List.set_cons_succ]
      refine wpList_step fun K hK => ?_
      rw [if_pos (by rfl)]
      refine op_val (.bool true) (by go_simp) (hK _ _ ?_)
      clear hK
      simp only [Act.put, List.setIfInBounds_toArray, List.set_cons_zero, List.set_cons_succ]
      refine wpList_step fun K hK => ?_
      rw [if_pos (by rw [HOPS.out]; rfl)]
      refine op_val (.int .i64 2) (by go_simp) (hK _ _ ?_)
      clear hK
      simp only [Act.put, List.setIfInBounds_toArray, List.set_cons_zero, List.set_cons_succ]
      refine wpList_step fun K hK => ?_
      rw [if_pos (by rw [HOPS.out]; rfl)]
      refine op_val (.bool true) (by go_simp) (hK _ _ ?_)
      clear hK
      simp only [Act.put, List.setIfInBounds_toArray, List.set_cons_zero, List.set_cons_succ]
      refine wpList_step fun K hK => ?_
      rw [if_pos (by rw [HOPS.out]; rfl)]
      refine op_val (.bool true) (by go_simp) (hK _ _ ?_)
      clear hK
      simp only [Act.put, List.setIfInBounds_toArray, List.set_cons_zero, List.set_cons_succ]
      refine wpList_step fun K hK => ?_
      rw [if_neg (by rw [HOPS.out]; exact Bool.false_ne_true)]
      refine hK _ _ ?_
      clear hK
      simp only [Act.put, List.setIfInBounds_toArray, List.set_cons_zero, List.set_cons_succ]
      refine wpList_step fun K hK => ?_
      rw [if_neg (by rw [HOPS.out]; exact Bool.false_ne_true)]
      refine hK _ _ ?_
      clear hK
      simp only [Act.put, List.setIfInBounds_toArray, List.set_cons_zero, List.set_cons_succ]
      refine wpList_step fun K hK => ?_
      rw [if_neg (by rw [HOPS.out]; exact Bool.false_ne_true)]
      refine hK _ _ ?_
      clear hK
      simp only [Act.put, List.setIfInBounds_toArray, List.set_cons_zero, List.set_cons_succ]
      refine wpList_step fun K hK => ?_
      rw [if_neg (by rw [HOPS.out]; exact Bool.false_ne_true)]
      refine hK _ _ ?_
      clear hK
      simp only [Act.put, List.setIfInBounds_toArray, List.set_cons_zero, List.set_cons_succ]
      refine wpList_step fun K hK => ?_
      rw [if_neg (by rw [HOPS.out]; exact Bool.false_ne_true)]
      refine hK _ _ ?_
      clear hK
      simp only [Act.put, List.setIfInBounds_toArray, List.set_cons_zero, List.set_cons_succ]
      refine wpList_step fun K hK => ?_
      rw [if_neg (by rw [HOPS.out]; exact Bool.false_ne_true)]
      refine hK _ _ ?_
      clear hK
      simp only [Act.put, List.setIfInBounds_toArray, List.set_cons_zero, List.set_cons_succ]
      refine wpList_step fun K hK => ?_
      rw [if_neg (by rw [HOPS.out]; exact Bool.false_ne_true)]
      refine hK _ _ ?_
      clear hK
      simp only [Act.put, List.setIfInBounds_toArray, List.set_cons_zero, List.set_cons_succ]
      refine wpList_step fun K hK => ?_
      rw [if_neg (by rw [HOPS.out]; exact Bool.false_ne_true)]
      refine hK _ _ ?_
      clear hK
      simp only [Act.put, List.setIfInBounds_toArray, List.set_cons_zero, List.set_cons_succ]
      refine wpList_step fun K hK => ?_
      rw [if_neg (by rw [HOPS.out]; exact Bool.false_ne_true)]
      refine hK _ _ ?_
      clear hK
      simp only [Act.put, List.setIfInBounds_toArray, List.set_cons_zero, List.set_cons_succ]
      refine wpList_step fun K hK => ?_
      rw [if_neg (by rw [HOPS.out]; exact Bool.false_ne_true)]
      refine hK _ _ ?_
      clear hK
      simp only [Act.put, List.setIfInBounds_toArray, List.set_cons_zero, List.set_cons_succ]
      refine wpList_step fun K hK => ?_
      rw [if_neg (by rw [HOPS.out]; exact Bool.false_ne_true)]
      refine hK _ _ ?_
      clear hK
      simp only [Act.put, List.setIfInBounds_toArray, List.set_cons_zero, List.set_cons_succ]
      refine wpList_step fun K hK => ?_
      rw [if_pos (by rw [HOPS.out]; rfl)]
      refine op_val (.bool true) (by go_simp) (hK _ _ ?_)
      clear hK
      simp only [Act.put, List.setIfInBounds_toArray, List.set_cons_zero, List.set_cons_succ]
      refine wpList_step fun K hK => ?_
      rw [if_pos (by rfl)]
      refine op_val (.bool true) (by go_simp) (hK _ _ ?_)
      clear hK
      simp only [Act.put, List.setIfInBounds_toArray, List.set_cons_zero, List.set_cons_succ]
      refine wpList_step fun K hK => ?_
      rw [if_pos (by rfl)]
      refine op_val (.bool true) (by go_simp) (hK _ _ ?_)
      clear hK
      simp only [Act.put, List.setIfInBounds_toArray, List.set_cons_zero, List.set_cons_succ]
      refine wpList_step fun K hK => ?_
      rw [if_pos (by rw [HOPS.out]; rfl)]
      refine op_val (.int .i64 2) (by go_simp) (hK _ _ ?_)
      clear hK
      simp only [Act.put, List.setIfInBounds_toArray, List.set_cons_zero, List.set_cons_succ]
      refine wpList_step fun K hK => ?_
      rw [if_pos (by rw [HOPS.out]; rfl)]
      refine op_val (.bool true) (by go_simp) (hK _ _ ?_)
      clear hK
      simp only [Act.put, List.setIfInBounds_toArray, List.set_cons_zero, List.set_cons_succ]
      refine wpList_step fun K hK => ?_
      rw [if_pos (by rw [HOPS.out]; rfl)]
      refine op_val (.bool true) (by go_simp) (hK _ _ ?_)
      clear hK
      simp only [Act.put, List.setIfInBounds_toArray, List.set_cons_zero, List.set_cons_succ]
      refine wpList_step fun K hK => ?_
      rw [if_neg (by rw [HOPS.out]; exact Bool.false_ne_true)]
      refine hK _ _ ?_
      clear hK
      simp only [Act.put, List.setIfInBounds_toArray, List.set_cons_zero, List.set_cons_succ]
      refine wpList_step fun K hK => ?_
      rw [if_neg (by rw [HOPS.out]; exact Bool.false_ne_true)]
      refine hK _ _ ?_
      clear hK
      simp only [Act.put, List.setIfInBounds_toArray, List.set_cons_zero, List.set_cons_succ]
      refine wpList_step fun K hK => ?_
      rw [if_pos (by rw [HOPS.out]; rfl)]
      refine op_val (.bool true) (by go_simp) (hK _ _ ?_)
      clear hK
      simp only [Act.put, List.setIfInBounds_toArray, List.set_cons_zero, List.set_cons_succ]
      refine wpList_step fun K hK => ?_
      rw [if_pos (by rw [HOPS.out]; rfl)]
      refine op_val (.bool true) (by go_simp) (hK _ _ ?_)
      clear hK
      simp only [Act.put, List.setIfInBounds_toArray, List.set_cons_zero, List.set_cons_succ]
      refine wpList_step fun K hK => ?_
      rw [if_neg (by rw [HOPS.out]; exact Bool.false_ne_true)]
      refine hK _ _ ?_
      clear hK
      simp only [Act.put, List.setIfInBounds_toArray, List.set_cons_zero, List.set_cons_succ]
      refine wpList_step fun K hK => ?_
      rw [if_neg (by rw [HOPS.out]; exact Bool.false_ne_true)]
      refine hK _ _ ?_
      clear hK
      simp only [Act.put, List.setIfInBounds_toArray, List.set_cons_zero, List.set_cons_succ]
      refine wpList_step fun K hK => ?_
      rw [if_neg (by rw [HOPS.out]; exact Bool.false_ne_true)]
      refine hK _ _ ?_
      clear hK
      simp only [Act.put, List.setIfInBounds_toArray, List.set_cons_zero, List.set_cons_succ]
      refine wpList_step fun K hK => ?_
      rw [if_pos (by rw [HOPS.out]; rfl)]
      refine op_val (.bool true) (by go_simp) (hK _ _ ?_)
      clear hK
      simp only [Act.put, List.setIfInBounds_toArray, List.set_cons_zero, List.set_cons_succ]
      refine wpList_step fun K hK => ?_
      rw [if_pos (by rfl)]
      refine op_val (.bool true) (by go_simp) (hK _ _ ?_)
      clear hK
      simp only [Act.put, List.setIfInBounds_toArray, List.set_cons_zero, List.set_cons_succ]
      refine wpList_step fun K hK => ?_
      rw [if_pos (by rfl)]
      refine op_val (.bool true) (by go_simp) (hK _ _ ?_)
      clear hK
      simp only [Act.put, List.setIfInBounds_toArray, List.set_cons_zero, List.set_cons_succ]
      refine wpList_step fun K hK => ?_
      rw [if_pos (by rw [HOPS.out]; rfl)]
      refine op_val (.int .i64 2) (by go_simp) (hK _ _ ?_)
      clear hK
      simp only [Act.put, List.setIfInBounds_toArray, List.set_cons_zero, List.set_cons_succ]
      refine wpList_step fun K hK => ?_
      rw [if_pos (by rw [HOPS.out]; rfl)]
      refine op_val (.bool false) (by go_simp) (hK _ _ ?_)
      clear hK
      simp only [Act.put, List.setIfInBounds_toArray, List.set_cons_zero, List.set_cons_succ]
      refine wpList_step fun K hK => ?_
      rw [if_pos (by rw [HOPS.out]; rfl)]
      refine op_val (.bool false) (by go_simp) (hK _ _ ?_)
      clear hK
      simp only [Act.put, List.setIfInBounds_toArray, List.set_cons_zero, List.set_cons_succ]
      refine wpList_step fun K hK => ?_
      rw [if_pos (by rw [HOPS.out]; rfl)]
      refine op_val (.pointer (some ⟨gx, 3, none⟩)) (by go_simp) (hK _ _ ?_)
      clear hK
      simp only [Act.put, List.setIfInBounds_toArray, List.set_cons_zero, List.set_cons_succ]
      refine wpList_step fun K hK => ?_
      rw [if_pos (by rw [HOPS.out]; rfl)]
      refine op_val (.int .i64 0) (by go_simp) (hK _ _ ?_)
      clear hK
      simp only [Act.put, List.setIfInBounds_toArray, List.set_cons_zero, List.set_cons_succ]
      refine wpList_step fun K hK => ?_
      rw [if_pos (by rw [HOPS.out]; rfl)]
      refine op_val (.bool true) (by go_simp) (hK _ _ ?_)
      clear hK
      simp only [Act.put, List.setIfInBounds_toArray, List.set_cons_zero, List.set_cons_succ]
      refine wpList_step fun K hK => ?_
      rw [if_pos (by rw [HOPS.out]; rfl)]
      refine op_val (.bool true) (by go_simp) (hK _ _ ?_)
      clear hK
      simp only [Act.put, List.setIfInBounds_toArray, List.set_cons_zero, List.set_cons_succ]
      refine wpList_step fun K hK => ?_
      rw [if_pos (by rw [HOPS.out]; rfl)]
      refine op_val (.pointer (some ⟨gx, 6, none⟩)) (by go_simp) (hK _ _ ?_)
      clear hK
      simp only [Act.put, List.setIfInBounds_toArray, List.set_cons_zero, List.set_cons_succ]
      refine wpList_step fun K hK => ?_
      rw [if_pos (by rw [HOPS.out]; rfl)]
      refine op_val (.slice kx.b 0 kx.bc) (by go_simp) (hK _ _ ?_)
      clear hK
      simp only [Act.put, List.setIfInBounds_toArray, List.set_cons_zero, List.set_cons_succ]
      refine wpList_step fun K hK => ?_
      rw [if_pos (by rw [HOPS.out]; rfl)]
      refine op_val (.int .i64 0) (by go_simp) (hK _ _ ?_)
      clear hK
      simp only [Act.put, List.setIfInBounds_toArray, List.set_cons_zero, List.set_cons_succ]
      refine wpList_step fun K hK => ?_
      rw [if_pos (by rw [HOPS.out]; rfl)]
      refine op_val (.bool true) (by go_simp) (hK _ _ ?_)
      clear hK
      simp only [Act.put, List.setIfInBounds_toArray, List.set_cons_zero, List.set_cons_succ]
      refine wpList_step fun K hK => ?_
      rw [if_pos (by rw [HOPS.out]; rfl)]
      refine op_val (.bool true) (by go_simp) (hK _ _ ?_)
      clear hK
      simp only [Act.put, List.setIfInBounds_toArray, List.set_cons_zero, List.set_cons_succ]
      refine wpList_step fun K hK => ?_
      rw [if_pos (by rw [HOPS.out]; rfl)]
      refine op_val (.bool true) (by go_simp) (hK _ _ ?_)
      clear hK
      simp only [Act.put, List.setIfInBounds_toArray, List.set_cons_zero, List.set_cons_succ]
      refine wpList_step fun K hK => ?_
      rw [if_pos (by rfl)]
      refine op_val (.bool true) (by go_simp) (hK _ _ ?_)
      clear hK
      simp only [Act.put, List.setIfInBounds_toArray, List.set_cons_zero, List.set_cons_succ]
      refine wpList_step fun K hK => ?_
      rw [if_pos (by rfl)]
      refine op_val (.bool true) (by go_simp) (hK _ _ ?_)
      clear hK
      simp only [Act.put, List.setIfInBounds_toArray, List.set_cons_zero, List.set_cons_succ]
      refine wpList_step fun K hK => ?_
      rw [if_pos (by rw [HOPS.out]; rfl)]
      refine op_val (.int .i64 2) (by go_simp) (hK _ _ ?_)
      clear hK
      simp only [Act.put, List.setIfInBounds_toArray, List.set_cons_zero, List.set_cons_succ]
      refine wpList_step fun K hK => ?_
      rw [if_pos (by rw [HOPS.out]; rfl)]
      refine op_val (.bool false) (by go_simp) (hK _ _ ?_)
      clear hK
      simp only [Act.put, List.setIfInBounds_toArray, List.set_cons_zero, List.set_cons_succ]
      refine wpList_step fun K hK => ?_
      rw [if_pos (by rw [HOPS.out]; rfl)]
      refine op_val (.bool false) (by go_simp) (hK _ _ ?_)
      clear hK
      simp only [Act.put, List.setIfInBounds_toArray, List.set_cons_zero, List.set_cons_succ]
      refine wpList_step fun K hK => ?_
      rw [if_pos (by rw [HOPS.out]; rfl)]
      refine op_val (.pointer (some ⟨gx, 24, none⟩)) (by go_simp) (hK _ _ ?_)
      clear hK
      simp only [Act.put, List.setIfInBounds_toArray, List.set_cons_zero, List.set_cons_succ]
      refine wpList_step fun K hK => ?_
      rw [if_pos (by rw [HOPS.out]; rfl)]
      refine op_val (.slice kx.o 0 kx.oc) (by go_simp) (hK _ _ ?_)
      clear hK
      simp only [Act.put, List.setIfInBounds_toArray, List.set_cons_zero, List.set_cons_succ]
      refine wpList_step fun K hK => ?_
      rw [if_pos (by rw [HOPS.out]; rfl)]
      refine op_val (.int .i64 0) (by go_simp) (hK _ _ ?_)
      clear hK
      simp only [Act.put, List.setIfInBounds_toArray, List.set_cons_zero, List.set_cons_succ]
      refine wpList_step fun K hK => ?_
      rw [if_pos (by rw [HOPS.out]; rfl)]
      refine op_val (.bool true) (by go_simp) (hK _ _ ?_)
      clear hK
      simp only [Act.put, List.setIfInBounds_toArray, List.set_cons_zero, List.set_cons_succ]
      refine wpList_step fun K hK => ?_
      rw [if_pos (by rw [HOPS.out]; rfl)]
      refine op_val (.bool true) (by go_simp) (hK _ _ ?_)
      clear hK
      simp only [Act.put, List.setIfInBounds_toArray, List.set_cons_zero, List.set_cons_succ]
      refine wpList_step fun K hK => ?_
      rw [if_pos (by rw [HOPS.out]; rfl)]
      refine op_val (.pointer (some ⟨gx, 5, none⟩)) (by go_simp) (hK _ _ ?_)
      clear hK
      simp only [Act.put, List.setIfInBounds_toArray, List.set_cons_zero, List.set_cons_succ]
      refine wpList_step fun K hK => ?_
      rw [if_pos (by rw [HOPS.out]; rfl)]
      refine op_val (.int .i64 0) (by go_simp) (hK _ _ ?_)
      clear hK
      simp only [Act.put, List.setIfInBounds_toArray, List.set_cons_zero, List.set_cons_succ]
      refine wpList_step fun K hK => ?_
      rw [if_pos (by rw [HOPS.out]; rfl)]
      refine op_val (.bool true) (by go_simp) (hK _ _ ?_)
      clear hK
      simp only [Act.put, List.setIfInBounds_toArray, List.set_cons_zero, List.set_cons_succ]
      refine wpList_step fun K hK => ?_
      rw [if_pos (by rw [HOPS.out]; rfl)]
      refine op_val (.bool true) (by go_simp) (hK _ _ ?_)
      clear hK
      simp only [Act.put, List.setIfInBounds_toArray, List.set_cons_zero, List.set_cons_succ]
      refine wpList_step fun K hK => ?_
      rw [if_pos (by rw [HOPS.out]; rfl)]
      refine op_val (.bool true) (by go_simp) (hK _ _ ?_)
      clear hK
      simp only [Act.put, List.setIfInBounds_toArray, List.set_cons_zero, List.set_cons_succ]
      refine wpList_step fun K hK => ?_
      rw [if_pos (by rfl)]
      refine op_val (.bool true) (by go_simp) (hK _ _ ?_)
      clear hK
      simp only [Act.put, List.setIfInBounds_toArray, List.set_cons_zero, List.set_cons_succ]
      refine wpList_step fun K hK => ?_
      rw [if_pos (by rfl)]
      refine op_val (.bool true) (by go_simp) (hK _ _ ?_)
      clear hK
      simp only [Act.put, List.setIfInBounds_toArray, List.set_cons_zero, List.set_cons_succ]
      refine wpList_step fun K hK => ?_
      rw [if_pos (by rw [HOPS.out]; rfl)]
      refine op_val (.int .i64 2) (by go_simp) (hK _ _ ?_)
      clear hK
      simp only [Act.put, List.setIfInBounds_toArray, List.set_cons_zero, List.set_cons_succ]
      refine wpList_step fun K hK => ?_
      rw [if_pos (by rw [HOPS.out]; rfl)]
      refine op_val (.bool false) (by go_simp) (hK _ _ ?_)
      clear hK
      simp only [Act.put, List.setIfInBounds_toArray, List.set_cons_zero, List.set_cons_succ]
      refine wpList_step fun K hK => ?_
      rw [if_pos (by rw [HOPS.out]; rfl)]
      refine op_val (.bool false) (by go_simp) (hK _ _ ?_)
      clear hK
      simp only [Act.put, List.setIfInBounds_toArray, List.set_cons_zero, List.set_cons_succ]
      refine wpList_step fun K hK => ?_
      rw [if_pos (by rw [HOPS.out]; rfl)]
      refine op_val (.pointer (some ⟨gx, 7, none⟩)) (by go_simp) (hK _ _ ?_)
      clear hK
      simp only [Act.put, List.setIfInBounds_toArray, List.set_cons_zero, List.set_cons_succ]
      refine wpList_step fun K hK => ?_
      rw [if_pos (by rw [HOPS.out]; rfl)]
      refine op_val (.int .i64 0) (by go_simp) (hK _ _ ?_)
      clear hK
      simp only [Act.put, List.setIfInBounds_toArray, List.set_cons_zero, List.set_cons_succ]
      refine wpList_step fun K hK => ?_
      rw [if_pos (by rw [HOPS.out]; rfl)]
      refine op_val (.bool true) (by go_simp) (hK _ _ ?_)
      clear hK
      simp only [Act.put, List.setIfInBounds_toArray, List.set_cons_zero, List.set_cons_succ]
      refine wpList_step fun K hK => ?_
      rw [if_pos (by rw [HOPS.out]; rfl)]
      refine op_val (.bool true) (by go_simp) (hK _ _ ?_)
      clear hK
      simp only [Act.put, List.setIfInBounds_toArray, List.set_cons_zero, List.set_cons_succ]
      refine wpList_step fun K hK => ?_
      rw [if_pos (by rfl)]
      refine op_val (.bool true) (by go_simp) (hK _ _ ?_)
      clear hK
      simp only [Act.put, List.setIfInBounds_toArray, List.set_cons_zero, List.set_cons_succ]
      refine wpList_step fun K hK => ?_
      rw [if_pos (by rfl)]
      refine op_val (.bool true) (by go_simp) (hK _ _ ?_)
      clear hK
      simp only [Act.put, List.setIfInBounds_toArray, List.set_cons_zero, List.set_cons_succ]
      go_wp2_with fail
      go_ret
      exact ⟨rfl, hxx9⟩
    · rw [named_3 hk] at hX
      rw [hX] at hX9
      have y0 : w9.cell? ⟨gx, 0, none⟩ = some (.int .i64 3) := hX9.cell 0 _ rfl
      have z0 : w9.cell? ⟨g, 0, none⟩ = some (.int .i64 3) := by have q := hC9.cell 0 _ rfl; rwa [hk] at q
      have y8 : w9.cell? ⟨gx, 8, none⟩ = some (.int .i64 0) := hX9.cell 8 _ rfl
      have y14 : w9.cell? ⟨gx, 14, none⟩ = some (.slice kx.c.o 0 kx.c.oc) := hX9.cell 14 _ rfl
      have y16 : w9.cell? ⟨gx, 16, none⟩ = some (.int .i64 0) := hX9.cell 16 _ rfl
      have y18 : w9.cell? ⟨gx, 18, none⟩ = some (.int .i64 0) := hX9.cell 18 _ rfl
      have y2 : w9.cell? ⟨gx, 2, none⟩ = some (.int .i64 0) := hX9.cell 2 _ rfl
      have y24 : w9.cell? ⟨gx, 24, none⟩ = some (.slice kx.o 0 kx.oc) := hX9.cell 24 _ rfl
      have y5 : w9.cell? ⟨gx, 5, none⟩ = some (.int .i64 0) := hX9.cell 5 _ rfl
      have y7 : w9.cell? ⟨gx, 7, none⟩ = some (.int .i64 0) := hX9.cell 7 _ rfl
      clear hX hX9 hC9 hk hkd
      go_upto_region 9 with fail
      refine wp_region_lit ?_
      simp only [List.append]
      refine wp_opaque fun OPS hOPS => ?_
      have HOPS := Lib.hid hOPS
      clear hOPS
      refine wpList_step fun K hK => ?_
      rw [if_pos (by rfl)]
      refine op_val (.int .i64 0) (by go_simp) (hK _ _ ?_)
      clear hK
      simp only [Act.put, List.setIfInBounds_toArray, List.set_cons_zero, List.set_cons_succ]
      refine wpList_step fun K hK => ?_
      rw [if_pos (by rfl)]
      refine op_val (.bool true) (by go_simp) (hK _ _ ?_)
      clear hK
      simp only [Act.put, List.setIfInBounds_toArray, List.set_cons_zero, List.set_cons_succ]
      refine wpList_step fun K hK => ?_
      rw [if_pos (by rfl)]
      refine op_val (.bool true) (by go_simp) (hK _ _ ?_)
      clear hK
      simp only [Act.put, List.setIfInBounds_toArray, List.set_cons_zero, List.set_cons_succ]
      refine wpList_step fun K hK => ?_
      rw [if_pos (by rw [HOPS.out]; rfl)]
      refine op_val (.int .i64 0) (by go_simp) (hK _ _ ?_)
      clear hK
      simp only [Act.put, List.setIfInBounds_toArray, List.set_cons_zero, List.set_cons_succ]
      refine wpList_step fun K hK => ?_
      rw [if_pos (by rw [HOPS.out]; rfl)]
      refine op_val (.bool true) (by go_simp) (hK _ _ ?_)
      clear hK
      simp only [Act.put, List.setIfInBounds_toArray, List.set_cons_zero, List.set_cons_succ]
      refine wpList_step fun K hK => ?_
      rw [if_pos (by rfl)]
      refine op_val (.bool true) (by go_simp) (hK _ _ ?_)
      clear hK
      simp only [Act.put, List.setIfInBounds_toArray, List.set_cons_zero, List.set_cons_succ]
      refine wpList_step fun K hK => ?_
      rw [if_pos (by rfl)]
      refine op_val (.bool true) (by go_simp) (hK _ _ ?_)
      clear hK
      simp only [Act.put, List.setIfInBounds_toArray, List.set_cons_zero, List.set_cons_succ]
      refine wpList_step fun K hK => ?_
      rw [if_pos (by rw [HOPS.out]; rfl)]
      refine op_val (.int .i64 3) (by go_simp) (hK _ _ ?_)
      clear hK
      simp only [Act.put, List.setIfInBounds_toArray, List.set_cons_zero, List.set_cons_succ]
      refine wpList_step fun K hK => ?_
      rw [if_pos (by rw [HOPS.out]; rfl)]
      refine op_val (.pointer (some ⟨g, 0, none⟩)) (by go_simp) (hK _ _ ?_)
      clear hK
      simp only [Act.put, List.setIfInBounds_toArray, List.set_cons_zero, List.set_cons_succ]
      refine wpList_step fun K hK => ?_
      rw [if_pos (by rw [HOPS.out]; rfl)]
      refine op_val (.int .i64 3) (by go_simp) (hK _ _ ?_)
      clear hK
      simp only [Act.put, List.setIfInBounds_toArray, List.set_cons_zero, List.set_cons_succ]
      refine wpList_step fun K hK => ?_
      rw [if_pos (by rw [HOPS.out]; rfl)]
      refine op_val (.bool true) (by go_simp) (hK _ _ ?_)
      clear hK
      simp only [Act.put, List.setIfInBounds_toArray, List.set_cons_zero, List.set_cons_succ]
      refine wpList_step fun K hK => ?_
      rw [if_pos (by rfl)]
      refine op_val (.bool true) (by go_simp) (hK _ _ ?_)
      clear hK
      simp only [Act.put, List.setIfInBounds_toArray, List.set_cons_zero, List.set_cons_succ]
      refine wpList_step fun K hK => ?_
      rw [if_pos (by rfl)]
      refine op_val (.bool true) (by go_simp) (hK _ _ ?_)
      clear hK
      simp only [Act.put, List.setIfInBounds_toArray, List.set_cons_zero, List.set_cons_succ]
      refine wpList_step fun K hK => ?_
      rw [if_pos (by rw [HOPS.out]; rfl)]
      refine op_val (.int .i64 3) (by go_simp) (hK _ _ ?_)
      clear hK
      simp only [Act.put, List.setIfInBounds_toArray, List.set_cons_zero, List.set_cons_succ]
      refine wpList_step fun K hK => ?_
      rw [if_pos (by rw [HOPS.out]; rfl)]
      refine op_val (.bool false) (by go_simp) (hK _ _ ?_)
      clear hK
      simp only [Act.put, List.setIfInBounds_toArray, List.set_cons_zero, List.set_cons_succ]
      refine wpList_step fun K hK => ?_
      rw [if_pos (by rw [HOPS.out]; rfl)]
      refine op_val (.bool false) (by go_simp) (hK _ _ ?_)
      clear hK
      simp only [Act.put, List.setIfInBounds_toArray, List.set_cons_zero, List.set_cons_succ]
      refine wpList_step fun K hK => ?_
      rw [if_pos (by rw [HOPS.out]; rfl)]
      refine op_val (.pointer (some ⟨gx, 8, none⟩)) (by go_simp) (hK _ _ ?_)
      clear hK
      simp only [Act.put, List.setIfInBounds_toArray, List.set_cons_zero, List.set_cons_succ]
      refine wpList_step fun K hK => ?_
      rw [if_pos (by rw [HOPS.out]; rfl)]
      refine op_val (.pointer (some ⟨gx, 8, none⟩)) (by go_simp) (hK _ _ ?_)
      clear hK
      simp only [Act.put, List.setIfInBounds_toArray, List.set_cons_zero, List.set_cons_succ]
      refine wpList_step fun K hK => ?_
      rw [if_pos (by rw [HOPS.out]; rfl)]
      refine op_val (.int .i64 0) (by go_simp) (hK _ _ ?_)
      clear hK
      simp only [Act.put, List.setIfInBounds_toArray, List.set_cons_zero, List.set_cons_succ]
      refine wpList_step fun K hK => ?_
      rw [if_pos (by rw [HOPS.out]; rfl)]
      refine op_val (.bool true) (by go_simp) (hK _ _ ?_)
      clear hK
      simp only [Act.put, List.setIfInBounds_toArray, List.set_cons_zero, List.set_cons_succ]
      refine wpList_step fun K hK => ?_
      rw [if_pos (by rw [HOPS.out]; rfl)]
      refine op_val (.bool true) (by go_simp) (hK _ _ ?_)
      clear hK
      simp only [Act.put, List.setIfInBounds_toArray, List.set_cons_zero, List.set_cons_succ]
      refine wpList_step fun K hK => ?_
      rw [if_pos (by rw [HOPS.out]; rfl)]
      refine op_val (.pointer (some ⟨gx, 8, none⟩)) (by go_simp) (hK _ _ ?_)
      clear hK
      simp only [Act.put, List.setIfInBounds_toArray, List.set_cons_zero, List.set_cons_succ]
      refine wpList_step fun K hK => ?_
      rw [if_pos (by rw [HOPS.out]; rfl)]
      refine op_val (.pointer (some ⟨gx, 14, none⟩)) (by go_simp) (hK _ _ ?_)
      clear hK
      simp only [Act.put, List.setIfInBounds_toArray, List.set_cons_zero, List.set_cons_succ]
      refine wpList_step fun K hK => ?_
      rw [if_pos (by rw [HOPS.out]; rfl)]
      refine op_val (.slice kx.c.o 0 kx.c.oc) (by go_simp) (hK _ _ ?_)
      clear hK
      simp only [Act.put, List.setIfInBounds_toArray, List.set_cons_zero, List.set_cons_succ]
      refine wpList_step fun K hK => ?_
      rw [if_pos (by rw [HOPS.out]; rfl)]
      refine op_val (.int .i64 0) (by go_simp) (hK _ _ ?_)
      clear hK
      simp only [Act.put, List.setIfInBounds_toArray, List.set_cons_zero, List.set_cons_succ]
      refine wpList_step fun K hK => ?_
      rw [if_pos (by rw [HOPS.out]; rfl)]
      refine op_val (.bool true) (by go_simp) (hK _ _ ?_)
      clear hK
      simp only [Act.put, List.setIfInBounds_toArray, List.set_cons_zero, List.set_cons_succ]
      refine wpList_step fun K hK => ?_
      rw [if_pos (by rw [HOPS.out]; rfl)]
      refine op_val (.bool true) (by go_simp) (hK _ _ ?_)
      clear hK
      simp only [Act.put, List.setIfInBounds_toArray, List.set_cons_zero, List.set_cons_succ]
      refine wpList_step fun K hK => ?_
      rw [if_pos (by rw [HOPS.out]; rfl)]
      refine op_val (.bool true) (by go_simp) (hK _ _ ?_)
      clear hK
      simp only [Act.put, List.setIfInBounds_toArray, List.set_cons_zero, List.set_cons_succ]
      refine wpList_step fun K hK => ?_
      rw [if_pos (by rfl)]
      refine op_val (.bool true) (by go_simp) (hK _ _ ?_)
      clear hK
      simp only [Act.put, List.setIfInBounds_toArray, List.set_cons_zero, List.set_cons_succ]
      refine wpList_step fun K hK => ?_
      rw [if_pos (by rfl)]
      refine op_val (.bool true) (by go_simp) (hK _ _ ?_)
      clear hK
      simp only [Act.put, List.setIfInBounds_toArray, List.set_cons_zero, List.set_cons_succ]
      refine wpList_step fun K hK => ?_
      rw [if_pos (by rw [HOPS.out]; rfl)]
      refine op_val (.int .i64 3) (by go_simp) (hK _ _ ?_)
      clear hK
      simp only [Act.put, List.setIfInBounds_toArray, List.set_cons_zero, List.set_cons_succ]
      refine wpList_step fun K hK => ?_
      rw [if_pos (by rw [HOPS.out]; rfl)]
      refine op_val (.bool false) (by go_simp) (hK _ _ ?_)
      clear hK
      simp only [Act.put, List.setIfInBounds_toArray, List.set_cons_zero, List.set_cons_succ]
      refine wpList_step fun K hK => ?_
      rw [if_pos (by rw [HOPS.out]; rfl)]
      refine op_val (.bool false) (by go_simp) (hK _ _ ?_)
      clear hK
      simp only [Act.put, List.setIfInBounds_toArray, List.set_cons_zero, List.set_cons_succ]
      refine wpList_step fun K hK => ?_
      rw [if_pos (by rw [HOPS.out]; rfl)]
      refine op_val (.pointer (some ⟨gx, 15, none⟩)) (by go_simp) (hK _ _ ?_)
      clear hK
      simp only [Act.put, List.setIfInBounds_toArray, List.set_cons_zero, List.set_cons_succ]
      refine wpList_step fun K hK => ?_
      rw [if_pos (by rw [HOPS.out]; rfl)]
      refine op_val (.pointer (some ⟨gx, 16, none⟩)) (by go_simp) (hK _ _ ?_)
      clear hK
      simp only [Act.put, List.setIfInBounds_toArray, List.set_cons_zero, List.set_cons_succ]
      refine wpList_step fun K hK => ?_
      rw [if_pos (by rw [HOPS.out]; rfl)]
      refine op_val (.int .i64 0) (by go_simp) (hK _ _ ?_)
      clear hK
      simp only [Act.put, List.setIfInBounds_toArray, List.set_cons_zero, List.set_cons_succ]
      refine wpList_step fun K hK => ?_
      rw [if_pos (by rw [HOPS.out]; rfl)]
      refine op_val (.bool true) (by go_simp) (hK _ _ ?_)
      clear hK
      simp only [Act.put, List.setIfInBounds_toArray, List.set_cons_zero, List.set_cons_succ]
      refine wpList_step fun K hK => ?_
      rw [if_pos (by rw [HOPS.out]; rfl)]
      refine op_val (.bool true) (by go_simp) (hK _ _ ?_)
      clear hK
      simp only [Act.put, List.setIfInBounds_toArray, List.set_cons_zero, List.set_cons_succ]
      refine wpList_step fun K hK => ?_
      rw [if_pos (by rw [HOPS.out]; rfl)]
      refine op_val (.pointer (some ⟨gx, 15, none⟩)) (by go_simp) (hK _ _ ?_)
      clear hK
      simp only [Act.put, List.setIfInBounds_toArray, List.set_cons_zero, List.set_cons_succ]
      refine wpList_step fun K hK => ?_
      rw [if_pos (by rw [HOPS.out]; rfl)]
      refine op_val (.pointer (some ⟨gx, 17, none⟩)) (by go_simp) (hK _ _ ?_)
      clear hK
      simp only [Act.put, List.setIfInBounds_toArray, List.set_cons_zero, List.set_cons_succ]
      refine wpList_step fun K hK => ?_
      rw [if_pos (by rw [HOPS.out]; rfl)]
      refine op_val (.pointer (some ⟨gx, 18, none⟩)) (by go_simp) (hK _ _ ?_)
      clear hK
      simp only [Act.put, List.setIfInBounds_toArray, List.set_cons_zero, List.set_cons_succ]
      refine wpList_step fun K hK => ?_
      rw [if_pos (by rw [HOPS.out]; rfl)]
      refine op_val (.int .i64 0) (by go_simp) (hK _ _ ?_)
      clear hK
      simp only [Act.put, List.setIfInBounds_toArray, List.set_cons_zero, List.set_cons_succ]
      refine wpList_step fun K hK => ?_
      rw [if_pos (by rw [HOPS.out]; rfl)]
      refine op_val (.bool true) (by go_simp) (hK _ _ ?_)
      clear hK
      simp only [Act.put, List.setIfInBounds_toArray, List.set_cons_zero, List.set_cons_succ]
      refine wpList_step fun K hK => ?_
      rw [if_pos (by rw [HOPS.out]; rfl)]
      refine op_val (.bool true) (by go_simp) (hK _ _ ?_)
      clear hK
      simp only [Act.put, List.setIfInBounds_toArray, List.set_cons_zero, List.set_cons_succ]
      refine wpList_step fun K hK => ?_
      rw [if_pos (by rw [HOPS.out]; rfl)]
      refine op_val (.bool true) (by go_simp) (hK _ _ ?_)
      clear hK
      simp only [Act.put, List.setIfInBounds_toArray, List.set_cons_zero, List.set_cons_succ]
      refine wpList_step fun K hK => ?_
      rw [if_pos (by rfl)]
      refine op_val (.bool true) (by go_simp) (hK _ _ ?_)
      clear hK
      simp only [Act.put, List.setIfInBounds_toArray, List.set_cons_zero, List.set_cons_succ]
      refine wpList_step fun K hK => ?_
      rw [if_pos (by rfl)]
      refine op_val (.bool true) (by go_simp) (hK _ _ ?_)
      clear hK
      simp only [Act.put, List.setIfInBounds_toArray, List.set_cons_zero, List.set_cons_succ]
      refine wpList_step fun K hK => ?_
      rw [if_pos (by rw [HOPS.out]; rfl)]
      refine op_val (.int .i64 3) (by go_simp) (hK _ _ ?_)
      clear hK
      simp only [Act.put, List.setIfInBounds_toArray, List.set_cons_zero, List.set_cons_succ]
      refine wpList_step fun K hK => ?_
      rw [if_pos (by rw [HOPS.out]; rfl)]
      refine op_val (.bool false) (by go_simp) (hK _ _ ?_)
      clear hK
      simp only [Act.put, List.setIfInBounds_toArray, List.set_cons_zero, List.set_cons_succ]
      refine wpList_step fun K hK => ?_
      rw [if_pos (by rw [HOPS.out]; rfl)]
      refine op_val (.bool false) (by go_simp) (hK _ _ ?_)
      clear hK
      simp only [Act.put, List.setIfInBounds_toArray, List.set_cons_zero, List.set_cons_succ]
      refine wpList_step fun K hK => ?_
      rw [if_pos (by rw [HOPS.out]; rfl)]
      refine op_val (.int .i64 3) (by go_simp) (hK _ _ ?_)
      clear hK
      simp only [Act.put, List.setIfInBounds_toArray, List.set_cons_zero, List.set_cons_succ]
      refine wpList_step fun K hK => ?_
      rw [if_pos (by rw [HOPS.out]; rfl)]
      refine op_val (.bool false) (by go_simp) (hK _ _ ?_)
      clear hK
      simp only [Act.put, List.setIfInBounds_toArray, List.set_cons_zero, List.set_cons_succ]
      refine wpList_step fun K hK => ?_
      rw [if_pos (by rw [HOPS.out]; rfl)]
      refine op_val (.bool false) (by go_simp) (hK _ _ ?_)
      clear hK
      simp only [Act.put, List.setIfInBounds_toArray, List.set_cons_zero, List.set_cons_succ]
      refine wpList_step fun K hK => ?_
      rw [if_pos (by rw [HOPS.out]; rfl)]
      refine op_val (.bool false) (by go_simp) (hK _ _ ?_)
      clear hK
      simp only [Act.put, List.setIfInBounds_toArray, List.set_cons_zero, List.set_cons_succ]
      refine wpList_step fun K hK => ?_
      rw [if_pos (by rw [HOPS.out]; rfl)]
      refine op_val (.pointer (some ⟨gx, 2, none⟩)) (by go_simp) (hK _ _ ?_)
      clear hK
      simp only [Act.put, List.setIfInBounds_toArray, List.set_cons_zero, List.set_cons_succ]
      refine wpList_step fun K hK => ?_
      rw [if_pos (by rw [HOPS.out]; rfl)]
      refine op_val (.int .i64 0) (by go_simp) (hK _ _ ?_)
      clear hK
      simp only [Act.put, List.setIfInBounds_toArray, List.set_cons_zero, List.set_cons_succ]
      refine wpList_step fun K hK => ?_
      rw [if_pos (by rw [HOPS.out]; rfl)]
      refine op_val (.bool true) (by go_simp) (hK _ _ ?_)
      clear hK
      simp only [Act.put, List.setIfInBounds_toArray, List.set_cons_zero, List.set_cons_succ]
      refine wpList_step fun K hK => ?_
      rw [if_pos (by rw [HOPS.out]; rfl)]
      refine op_val (.bool true) (by go_simp) (hK _ _ ?_)
      clear hK
      simp only [Act.put, List.setIfInBounds_toArray, List.set_cons_zero, List.set_cons_succ]
      refine wpList_step fun K hK => ?_
      rw [if_pos (by rfl)]
      refine op_val (.bool true) (by go_simp) (hK _ _ ?_)
      clear hK
      simp only [Act.put, List.setIfInBounds_toArray, List.set_cons_zero, List.set_cons_succ]
      refine wpList_step fun K hK => ?_
      rw [if_pos (by rfl)]
      refine op_val (.bool true) (by go_simp) (hK _ _ ?_)
      clear hK
      simp only [Act.put, List.setIfInBounds_toArray, List.set_cons_zero, List.set_cons_succ]
      refine wpList_step fun K hK => ?_
      rw [if_pos (by rw [HOPS.out]; rfl)]
      refine op_val (.int .i64 3) (by go_simp) (hK _ _ ?_)
      clear hK
      simp only [Act.put, List.setIfInBounds_toArray, List.set_cons_zero, List.set_cons_succ]
      refine wpList_step fun K hK => ?_
      rw [if_pos (by rw [HOPS.out]; rfl)]
      refine op_val (.bool true) (by go_simp) (hK _ _ ?_)
      clear hK
      simp only [Act.put, List.setIfInBounds_toArray, List.set_cons_zero, List.set_cons_succ]
      refine wpList_step fun K hK => ?_
      rw [if_pos (by rw [HOPS.out]; rfl)]
      refine op_val (.bool true) (by go_simp) (hK _ _ ?_)
      clear hK
      simp only [Act.put, List.setIfInBounds_toArray, List.set_cons_zero, List.set_cons_succ]
      refine wpList_step fun K hK => ?_
      rw [if_neg (by rw [HOPS.out]; exact Bool.false_ne_true)]
      refine hK _ _ ?_
      clear hK
      simp only [Act.put, List.setIfInBounds_toArray, List.set_cons_zero, List.set_cons_succ]
      refine wpList_step fun K hK => ?_
      rw [if_neg (by rw [HOPS.out]; exact Bool.false_ne_true)]
      refine hK _ _ ?_
      clear hK
      simp only [Act.put, List.setIfInBounds_toArray, List.set_cons_zero, List.set_cons_succ]
      refine wpList_step fun K hK => ?_
      rw [if_neg (by rw [HOPS.out]; exact Bool.false_ne_true)]
      refine hK _ _ ?_
      clear hK
      simp only [Act.put, List.setIfInBounds_toArray, List.set_cons_zero, List.set_cons_succ]
      refine wpList_step fun K hK => ?_
      rw [if_neg (by rw [HOPS.out]; exact Bool.false_ne_true)]
      refine hK _ _ ?_
      clear hK
      simp only [Act.put, List.setIfInBounds_toArray, List.set_cons_zero, List.set_cons_succ]
      refine wpList_step fun K hK => ?_
      rw [if_neg (by rw [HOPS.out]; exact Bool.false_ne_true)]
      refine hK _ _ ?_
      clear hK
      simp only [Act.put, List.setIfInBounds_toArray, List.set_cons_zero, List.set_cons_succ]
      refine wpList_step fun K hK => ?_
      rw [if_neg (by rw [HOPS.out]; exact Bool.false_ne_true)]
      refine hK _ _ ?_
      clear hK
      simp only [Act.put, List.setIfInBounds_toArray, List.set_cons_zero, List.set_cons_succ]
      refine wpList_step fun K hK => ?_
      rw [if_neg (by rw [HOPS.out]; exact Bool.false_ne_true)]
      refine hK _ _ ?_
      clear hK
      simp only [Act.put, List.setIfInBounds_toArray, List.set_cons_zero, List.set_cons_succ]
      refine wpList_step fun K hK => ?_
      rw [if_neg (by rw [HOPS.out]; exact Bool.false_ne_true)]
      refine hK _ _ ?_
      clear hK
      simp only [Act.put, List.setIfInBounds_toArray, List.set_cons_zero, List.set_cons_succ]
      refine wpList_step fun K hK => ?_
      rw [if_neg (by rw [HOPS.out]; exact Bool.false_ne_true)]
      refine hK _ _ ?_
      clear hK
      simp only [Act.put, List.setIfInBounds_toArray, List.set_cons_zero, List.set_cons_succ]
      refine wpList_step fun K hK => ?_
      rw [if_pos (by rw [HOPS.out]; rfl)]
      refine op_val (.bool true) (by go_simp) (hK _ _ ?_)
      clear hK
      simp only [Act.put, List.setIfInBounds_toArray, List.set_cons_zero, List.set_cons_succ]
      refine wpList_step fun K hK => ?_
      rw [if_pos (by rfl)]
      refine op_val (.bool true) (by go_simp) (hK _ _ ?_)
      clear hK
      simp only [Act.put, List.setIfInBounds_toArray, List.set_cons_zero, List.set_cons_succ]
      refine wpList_step fun K hK => ?_
      rw [if_pos (by rfl)]
      refine op_val (.bool true) (by go_simp) (hK _ _ ?_)
      clear hK
      simp only [Act.put, List.setIfInBounds_toArray, List.set_cons_zero, List.set_cons_succ]
      refine wpList_step fun K hK => ?_
      rw [if_pos (by rw [HOPS.out]; rfl)]
      refine op_val (.int .i64 3) (by go_simp) (hK _ _ ?_)
      clear hK
      simp only [Act.put, List.setIfInBounds_toArray, List.set_cons_zero, List.set_cons_succ]
      refine wpList_step fun K hK => ?_
      rw [if_pos (by rw [HOPS.out]; rfl)]
      refine op_val (.bool false) (by go_simp) (hK _ _ ?_)
      clear hK
      simp only [Act.put, List.setIfInBounds_toArray, List.set_cons_zero, List.set_cons_succ]
      refine wpList_step fun K hK => ?_
      rw [if_pos (by rw [HOPS.out]; rfl)]
      refine op_val (.bool false) (by go_simp) (hK _ _ ?_)
      clear hK
      simp only [Act.put, List.setIfInBounds_toArray, List.set_cons_zero, List.set_cons_succ]
      refine wpList_step fun K hK => ?_
      rw [if_pos (by rw [HOPS.out]; rfl)]
      refine op_val (.pointer (some ⟨gx, 24, none⟩)) (by go_simp) (hK _ _ ?_)
      clear hK
      simp only [Act.put, List.setIfInBounds_toArray, List.set_cons_zero, List.set_cons_succ]
      refine wpList_step fun K hK => ?_
      rw [if_pos (by rw [HOPS.out]; rfl)]
      refine op_val (.slice kx.o 0 kx.oc) (by go_simp) (hK _ _ ?_)
      clear hK
      simp only [Act.put, List.setIfInBounds_toArray, List.set_cons_zero, List.set_cons_succ]
      refine wpList_step fun K hK => ?_
      rw [if_pos (by rw [HOPS.out]; rfl)]
      refine op_val (.int .i64 0) (by go_simp) (hK _ _ ?_)
      clear hK
      simp only [Act.put, List.setIfInBounds_toArray, List.set_cons_zero, List.set_cons_succ]
      refine wpList_step fun K hK => ?_
      rw [if_pos (by rw [HOPS.out]; rfl)]
      refine op_val (.bool true) (by go_simp) (hK _ _ ?_)
      clear hK
      simp only [Act.put, List.setIfInBounds_toArray, List.set_cons_zero, List.set_cons_succ]
      refine wpList_step fun K hK => ?_
      rw [if_pos (by rw [HOPS.out]; rfl)]
      refine op_val (.bool true) (by go_simp) (hK _ _ ?_)
      clear hK
      simp only [Act.put, List.setIfInBounds_toArray, List.set_cons_zero, List.set_cons_succ]
      refine wpList_step fun K hK => ?_
      rw [if_pos (by rw [HOPS.out]; rfl)]
      refine op_val (.pointer (some ⟨gx, 5, none⟩)) (by go_simp) (hK _ _ ?_)
      clear hK
      simp only [Act.put, List.setIfInBounds_toArray, List.set_cons_zero, List.set_cons_succ]
      refine wpList_step fun K hK => ?_
      rw [if_pos (by rw [HOPS.out]; rfl)]
      refine op_val (.int .i64 0) (by go_simp) (hK _ _ ?_)
      clear hK
      simp only [Act.put, List.setIfInBounds_toArray, List.set_cons_zero, List.set_cons_succ]
      refine wpList_step fun K hK => ?_
      rw [if_pos (by rw [HOPS.out]; rfl)]
      refine op_val (.bool true) (by go_simp) (hK _ _ ?_)
      clear hK
      simp only [Act.put, List.setIfInBounds_toArray, List.set_cons_zero, List.set_cons_succ]
      refine wpList_step fun K hK => ?_
      rw [if_pos (by rw [HOPS.out]; rfl)]
      refine op_val (.bool true) (by go_simp) (hK _ _ ?_)
      clear hK
      simp only [Act.put, List.setIfInBounds_toArray, List.set_cons_zero, List.set_cons_succ]
      refine wpList_step fun K hK => ?_
      rw [if_pos (by rw [HOPS.out]; rfl)]
      refine op_val (.bool true) (by go_simp) (hK _ _ ?_)
      clear hK
      simp only [Act.put, List.setIfInBounds_toArray, List.set_cons_zero, List.set_cons_succ]
      refine wpList_step fun K hK => ?_
      rw [if_pos (by rfl)]
      refine op_val (.bool true) (by go_simp) (hK _ _ ?_)
      clear hK
      simp only [Act.put, List.setIfInBounds_toArray, List.set_cons_zero, List.set_cons_succ]
      refine wpList_step fun K hK => ?_
      rw [if_pos (by rfl)]
      refine op_val (.bool true) (by go_simp) (hK _ _ ?_)
      clear hK
      simp only [Act.put, List.setIfInBounds_toArray, List.set_cons_zero, List.set_cons_succ]
      refine wpList_step fun K hK => ?_
      rw [if_pos (by rw [HOPS.out]; rfl)]
      refine op_val (.int .i64 3) (by go_simp) (hK _ _ ?_)
      clear hK
      simp only [Act.put, List.setIfInBounds_toArray, List.set_cons_zero, List.set_cons_succ]
      refine wpList_step fun K hK => ?_
      rw [if_pos (by rw [HOPS.out]; rfl)]
      refine op_val (.bool false) (by go_simp) (hK _ _ ?_)
      clear hK
      simp only [Act.put, List.setIfInBounds_toArray, List.set_cons_zero, List.set_cons_succ]
      refine wpList_step fun K hK => ?_
      rw [if_pos (by rw [HOPS.out]; rfl)]
      refine op_val (.bool false) (by go_simp) (hK _ _ ?_)
      clear hK
      simp only [Act.put, List.setIfInBounds_toArray, List.set_cons_zero, List.set_cons_succ]
      refine wpList_step fun K hK => ?_
      rw [if_pos (by rw [HOPS.out]; rfl)]
      refine op_val (.pointer (some ⟨gx, 7, none⟩)) (by go_simp) (hK _ _ ?_)
      clear hK
      simp only [Act.put, List.setIfInBounds_toArray, List.set_cons_zero, List.set_cons_succ]
      refine wpList_step fun K hK => ?_
      rw [if_pos (by rw [HOPS.out]; rfl)]
      refine op_val (.int .i64 0) (by go_simp) (hK _ _ ?_)
      clear hK
      simp only [Act.put, List.setIfInBounds_toArray, List.set_cons_zero, List.set_cons_succ]
      refine wpList_step fun K hK => ?_
      rw [if_pos (by rw [HOPS.out]; rfl)]
      refine op_val (.bool true) (by go_simp) (hK _ _ ?_)
      clear hK
      simp only [Act.put, List.setIfInBounds_toArray, List.set_cons_zero, List.set_cons_succ]
      refine wpList_step fun K hK => ?_
      rw [if_pos (by rw [HOPS.out]; rfl)]
      refine op_val (.bool true) (by go_simp) (hK _ _ ?_)
      clear hK
      simp only [Act.put, List.setIfInBounds_toArray, List.set_cons_zero, List.set_cons_succ]
      refine wpList_step fun K hK => ?_
      rw [if_pos (by rfl)]
      refine op_val (.bool true) (by go_simp) (hK _ _ ?_)
      clear hK
      simp only [Act.put, List.setIfInBounds_toArray, List.set_cons_zero, List.set_cons_succ]
      refine wpList_step fun K hK => ?_
      rw [if_pos (by rfl)]
      refine op_val (.bool true) (by go_simp) (hK _ _ ?_)
      clear hK
      simp only [Act.put, List.setIfInBounds_toArray, List.set_cons_zero, List.set_cons_succ]
      go_wp2_with fail
      go_ret
      exact ⟨rfl, hxx9⟩
    · rw [named_4 hk] at hX
      rw [hX] at hX9
      have y0 : w9.cell? ⟨gx, 0, none⟩ = some (.int .i64 4) := hX9.cell 0 _ rfl
      have z0 : w9.cell? ⟨g, 0, none⟩ = some (.int .i64 4) := by have q := hC9.cell 0 _ rfl; rwa [hk] at q
      have y8 : w9.cell? ⟨gx, 8, none⟩ = some (.int .i64 0) := hX9.cell 8 _ rfl
      have y14 : w9.cell? ⟨gx, 14, none⟩ = some (.slice kx.c.o 0 kx.c.oc) := hX9.cell 14 _ rfl
      have y16 : w9.cell? ⟨gx, 16, none⟩ = some (.int .i64 0) := hX9.cell 16 _ rfl
      have y18 : w9.cell? ⟨gx, 18, none⟩ = some (.int .i64 0) := hX9.cell 18 _ rfl
      have y2 : w9.cell? ⟨gx, 2, none⟩ = some (.int .i64 0) := hX9.cell 2 _ rfl
      have y3 : w9.cell? ⟨gx, 3, none⟩ = some (.int .i64 0) := hX9.cell 3 _ rfl
      have y6 : w9.cell? ⟨gx, 6, none⟩ = some (.slice kx.b 0 kx.bc) := hX9.cell 6 _ rfl
      have y7 : w9.cell? ⟨gx, 7, none⟩ = some (.int .i64 0) := hX9.cell 7 _ rfl
      clear hX hX9 hC9 hk hkd
      go_upto_region 9 with fail
      refine wp_region_lit ?_
      simp only [List.append]
      refine wp_opaque fun OPS hOPS => ?_
      have HOPS := Lib.hid hOPS
      clear hOPS
      refine wpList_step fun K hK => ?_
      rw [if_pos (by rfl)]
      refine op_val (.int .i64 0) (by go_simp) (hK _ _ ?_)
      clear hK
      simp only [Act.put, List.setIfInBounds_toArray, List.set_cons_zero, List.set_cons_succ]
      refine wpList_step fun K hK => ?_
      rw [if_pos (by rfl)]
      refine op_val (.bool true) (by go_simp) (hK _ _ ?_)
      clear hK
      simp only [Act.put, List.setIfInBounds_toArray, List.set_cons_zero, List.set_cons_succ]
      refine wpList_step fun K hK => ?_
      rw [if_pos (by rfl)]
      refine op_val (.bool true) (by go_simp) (hK _ _ ?_)
      clear hK
      simp only [Act.put, List.setIfInBounds_toArray, List.set_cons_zero, List.set_cons_succ]
      refine wpList_step fun K hK => ?_
      rw [if_pos (by rw [HOPS.out]; rfl)]
      refine op_val (.int .i64 0) (by go_simp) (hK _ _ ?_)
      clear hK
      simp only [Act.put, List.setIfInBounds_toArray, List.set_cons_zero, List.set_cons_succ]
      refine wpList_step fun K hK => ?_
      rw [if_pos (by rw [HOPS.out]; rfl)]
      refine op_val (.bool true) (by go_simp) (hK _ _ ?_)
      clear hK
      simp only [Act.put, List.setIfInBounds_toArray, List.set_cons_zero, List.set_cons_succ]
      refine wpList_step fun K hK => ?_
      rw [if_pos (by rfl)]
      refine op_val (.bool true) (by go_simp) (hK _ _ ?_)
      clear hK
      simp only [Act.put, List.setIfInBounds_toArray, List.set_cons_zero, List.set_cons_succ]
      refine wpList_step fun K hK => ?_
      rw [if_pos (by rfl)]
      refine op_val (.bool true) (by go_simp) (hK _ _ ?_)
      clear hK
      simp only [Act.put, List.setIfInBounds_toArray, List.set_cons_zero, List.set_cons_succ]
      refine wpList_step fun K hK => ?_
      rw [if_pos (by rw [HOPS.out]; rfl)]
      refine op_val (.int .i64 4) (by go_simp) (hK _ _ ?_)
      clear hK
      simp only [Act.put, List.setIfInBounds_toArray, List.set_cons_zero, List.set_cons_succ]
      refine wpList_step fun K hK => ?_
      rw [if_pos (by rw [HOPS.out]; rfl)]
      refine op_val (.pointer (some ⟨g, 0, none⟩)) (by go_simp) (hK _ _ ?_)
      clear hK
      simp only [Act.put, List.setIfInBounds_toArray, List.set_cons_zero, List.set_cons_succ]
      refine wpList_step fun K hK => ?_
      rw [if_pos (by rw [HOPS.out]; rfl)]
      refine op_val (.int .i64 4) (by go_simp) (hK _ _ ?_)
      clear hK
      simp only [Act.put, List.setIfInBounds_toArray, List.set_cons_zero, List.set_cons_succ]
      refine wpList_step fun K hK => ?_
      rw [if_pos (by rw [HOPS.out]; rfl)]
      refine op_val (.bool true) (by go_simp) (hK _ _ ?_)
      clear hK
      simp only [Act.put, List.setIfInBounds_toArray, List.set_cons_zero, List.set_cons_succ]
      refine wpList_step fun K hK => ?_
      rw [if_pos (by rfl)]
      refine op_val (.bool true) (by go_simp) (hK _ _ ?_)
      clear hK
      simp only [Act.put, List.setIfInBounds_toArray, List.set_cons_zero, List.set_cons_succ]
      refine wpList_step fun K hK => ?_
      rw [if_pos (by rfl)]
      refine op_val (.bool true) (by go_simp) (hK _ _ ?_)
      clear hK
      simp only [Act.put, List.setIfInBounds_toArray, List.set_cons_zero, List.set_cons_succ]
      refine wpList_step fun K hK => ?_
      rw [if_pos (by rw [HOPS.out]; rfl)]
      refine op_val (.int .i64 4) (by go_simp) (hK _ _ ?_)
      clear hK
      simp only [Act.put, List.setIfInBounds_toArray, List.set_cons_zero, List.set_cons_succ]
      refine wpList_step fun K hK => ?_
      rw [if_pos (by rw [HOPS.out]; rfl)]
      refine op_val (.bool false) (by go_simp) (hK _ _ ?_)
      clear hK
      simp only [Act.put, List.setIfInBounds_toArray, List.set_cons_zero, List.set_cons_succ]
      refine wpList_step fun K hK => ?_
      rw [if_pos (by rw [HOPS.out]; rfl)]
      refine op_val (.bool false) (by go_simp) (hK _ _ ?_)
      clear hK
      simp only [Act.put, List.setIfInBounds_toArray, List.set_cons_zero, List.set_cons_succ]
      refine wpList_step fun K hK => ?_
      rw [if_pos (by rw [HOPS.out]; rfl)]
      refine op_val (.pointer (some ⟨gx, 8, none⟩)) (by go_simp) (hK _ _ ?_)
      clear hK
      simp only [Act.put, List.setIfInBounds_toArray, List.set_cons_zero, List.set_cons_succ]
      refine wpList_step fun K hK => ?_
      rw [if_pos (by rw [HOPS.out]; rfl)]
      refine op_val (.pointer (some ⟨gx, 8, none⟩)) (by go_simp) (hK _ _ ?_)
      clear hK
      simp only [Act.put, List.setIfInBounds_toArray, List.set_cons_zero, List.set_cons_succ]
      refine wpList_step fun K hK => ?_
      rw [if_pos (by rw [HOPS.out]; rfl)]
      refine op_val (.int .i64 0) (by go_simp) (hK _ _ ?_)
      clear hK
      simp only [Act.put, List.setIfInBounds_toArray, List.set_cons_zero, List.set_cons_succ]
      refine wpList_step fun K hK => ?_
      rw [if_pos (by rw [HOPS.out]; rfl)]
      refine op_val (.bool true) (by go_simp) (hK _ _ ?_)
      clear hK
      simp only [Act.put, List.setIfInBounds_toArray, List.set_cons_zero, List.set_cons_succ]
      refine wpList_step fun K hK => ?_
      rw [if_pos (by rw [HOPS.out]; rfl)]
      refine op_val (.bool true) (by go_simp) (hK _ _ ?_)
      clear hK
      simp only [Act.put, List.setIfInBounds_toArray, List.set_cons_zero, List.set_cons_succ]
      refine wpList_step fun K hK => ?_
      rw [if_pos (by rw [HOPS.out]; rfl)]
      refine op_val (.pointer (some ⟨gx, 8, none⟩)) (by go_simp) (hK _ _ ?_)
      clear hK
      simp only [Act.put, List.setIfInBounds_toArray, List.set_cons_zero, List.set_cons_succ]
      refine wpList_step fun K hK => ?_
      rw [if_pos (by rw [HOPS.out]; rfl)]
      refine op_val (.pointer (some ⟨gx, 14, none⟩)) (by go_simp) (hK _ _ ?_)
      clear hK
      simp only [Act.put, List.setIfInBounds_toArray, List.set_cons_zero, List.set_cons_succ]
      refine wpList_step fun K hK => ?_
      rw [if_pos (by rw [HOPS.out]; rfl)]
      refine op_val (.slice kx.c.o 0 kx.c.oc) (by go_simp) (hK _ _ ?_)
      clear hK
      simp only [Act.put, List.setIfInBounds_toArray, List.set_cons_zero, List.set_cons_succ]
      refine wpList_step fun K hK => ?_
      rw [if_pos (by rw [HOPS.out]; rfl)]
      refine op_val (.int .i64 0) (by go_simp) (hK _ _ ?_)
      clear hK
      simp only [Act.put, List.setIfInBounds_toArray, List.set_cons_zero, List.set_cons_succ]
      refine wpList_step fun K hK => ?_
      rw [if_pos (by rw [HOPS.out]; rfl)]
      refine op_val (.bool true) (by go_simp) (hK _ _ ?_)
      clear hK
      simp only [Act.put, List.setIfInBounds_toArray, List.set_cons_zero, List.set_cons_succ]
      refine wpList_step fun K hK => ?_
      rw [if_pos (by rw [HOPS.out]; rfl)]
      refine op_val (.bool true) (by go_simp) (hK _ _ ?_)
      clear hK
      simp only [Act.put, List.setIfInBounds_toArray, List.set_cons_zero, List.set_cons_succ]
      refine wpList_step fun K hK => ?_
      rw [if_pos (by rw [HOPS.out]; rfl)]
      refine op_val (.bool true) (by go_simp) (hK _ _ ?_)
      clear hK
      simp only [Act.put, List.setIfInBounds_toArray, List.set_cons_zero, List.set_cons_succ]
      refine wpList_step fun K hK => ?_
      rw [if_pos (by rfl)]
      refine op_val (.bool true) (by go_simp) (hK _ _ ?_)
      clear hK
      simp only [Act.put, List.setIfInBounds_toArray, List.set_cons_zero, List.set_cons_succ]
      refine wpList_step fun K hK => ?_
      rw [if_pos (by rfl)]
      refine op_val (.bool true) (by go_simp) (hK _ _ ?_)
      clear hK
      simp only [Act.put, List.setIfInBounds_toArray, List.set_cons_zero, List.set_cons_succ]
      refine wpList_step fun K hK => ?_
      rw [if_pos (by rw [HOPS.out]; rfl)]
      refine op_val (.int .i64 4) (by go_simp) (hK _ _ ?_)
      clear hK
      simp only [Act.put, List.setIfInBounds_toArray, List.set_cons_zero, List.set_cons_succ]
      refine wpList_step fun K hK => ?_
      rw [if_pos (by rw [HOPS.out]; rfl)]
      refine op_val (.bool false) (by go_simp) (hK _ _ ?_)
      clear hK
      simp only [Act.put, List.setIfInBounds_toArray, List.set_cons_zero, List.set_cons_succ]
      refine wpList_step fun K hK => ?_
      rw [if_pos (by rw [HOPS.out]; rfl)]
      refine op_val (.bool false) (by go_simp) (hK _ _ ?_)
      clear hK
      simp only [Act.put, List.setIfInBounds_toArray, List.set_cons_zero, List.set_cons_succ]
      refine wpList_step fun K hK => ?_
      rw [if_pos (by rw [HOPS.out]; rfl)]
      refine op_val (.pointer (some ⟨gx, 15, none⟩)) (by go_simp) (hK _ _ ?_)
      clear hK
      simp only [Act.put, List.setIfInBounds_toArray, List.set_cons_zero, List.set_cons_succ]
      refine wpList_step fun K hK => ?_
      rw [if_pos (by rw [HOPS.out]; rfl)]
      refine op_val (.pointer (some ⟨gx, 16, none⟩)) (by go_simp) (hK _ _ ?_)
      clear hK
      simp only [Act.put, List.setIfInBounds_toArray, List.set_cons_zero, List.set_cons_succ]
      refine wpList_step fun K hK => ?_
      rw [if_pos (by rw [HOPS.out]; rfl)]
      refine op_val (.int .i64 0) (by go_simp) (hK _ _ ?_)
      clear hK
      simp only [Act.put, List.setIfInBounds_toArray, List.set_cons_zero, List.set_cons_succ]
      refine wpList_step fun K hK => ?_
      rw [if_pos (by rw [HOPS.out]; rfl)]
      refine op_val (.bool true) (by go_simp) (hK _ _ ?_)
      clear hK
      simp only [Act.put, List.setIfInBounds_toArray, List.set_cons_zero, List.set_cons_succ]
      refine wpList_step fun K hK => ?_
      rw [if_pos (by rw [HOPS.out]; rfl)]
      refine op_val (.bool true) (by go_simp) (hK _ _ ?_)
      clear hK
      simp only [Act.put, List.setIfInBounds_toArray, List.set_cons_zero, List.set_cons_succ]
      refine wpList_step fun K hK => ?_
      rw [if_pos (by rw [HOPS.out]; rfl)]
      refine op_val (.pointer (some ⟨gx, 15, none⟩)) (by go_simp) (hK _ _ ?_)
      clear hK
      simp only [Act.put, List.setIfInBounds_toArray, List.set_cons_zero, List.set_cons_succ]
      refine wpList_step fun K hK => ?_
      rw [if_pos (by rw [HOPS.out]; rfl)]
      refine op_val (.pointer (some ⟨gx, 17, none⟩)) (by go_simp) (hK _ _ ?_)
      clear hK
      simp only [Act.put, List.setIfInBounds_toArray, List.set_cons_zero, List.set_cons_succ]
      refine wpList_step fun K hK => ?_
      rw [if_pos (by rw [HOPS.out]; rfl)]
      refine op_val (.pointer (some ⟨gx, 18, none⟩)) (by go_simp) (hK _ _ ?_)
      clear hK
      simp only [Act.put, List.setIfInBounds_toArray, List.set_cons_zero, List.set_cons_succ]
      refine wpList_step fun K hK => ?_
      rw [if_pos (by rw [HOPS.out]; rfl)]
      refine op_val (.int .i64 0) (by go_simp) (hK _ _ ?_)
      clear hK
      simp only [Act.put, List.setIfInBounds_toArray, List.set_cons_zero, List.set_cons_succ]
      refine wpList_step fun K hK => ?_
      rw [if_pos (by rw [HOPS.out]; rfl)]
      refine op_val (.bool true) (by go_simp) (hK _ _ ?_)
      clear hK
      simp only [Act.put, List.setIfInBounds_toArray, List.set_cons_zero, List.set_cons_succ]
      refine wpList_step fun K hK => ?_
      rw [if_pos (by rw [HOPS.out]; rfl)]
      refine op_val (.bool true) (by go_simp) (hK _ _ ?_)
      clear hK
      simp only [Act.put, List.setIfInBounds_toArray, List.set_cons_zero, List.set_cons_succ]
      refine wpList_step fun K hK => ?_
      rw [if_pos (by rw [HOPS.out]; rfl)]
      refine op_val (.bool true) (by go_simp) (hK _ _ ?_)
      clear hK
      simp only [Act.put, List.setIfInBounds_toArray, List.set_cons_zero, List.set_cons_succ]
      refine wpList_step fun K hK => ?_
      rw [if_pos (by rfl)]
      refine op_val (.bool true) (by go_simp) (hK _ _ ?_)
      clear hK
      simp only [Act.put, List.setIfInBounds_toArray, List.set_cons_zero, List.set_cons_succ]
      refine wpList_step fun K hK => ?_
      rw [if_pos (by rfl)]
      refine op_val (.bool true) (by go_simp) (hK _ _ ?_)
      clear hK
      simp only [Act.put, List.setIfInBounds_toArray, List.set_cons_zero, List.set_cons_succ]
      refine wpList_step fun K hK => ?_
      rw [if_pos (by rw [HOPS.out]; rfl)]
      refine op_val (.int .i64 4) (by go_simp) (hK _ _ ?_)
      clear hK
      simp only [Act.put, List.setIfInBounds_toArray, List.set_cons_zero, List.set_cons_succ]
      refine wpList_step fun K hK => ?_
      rw [if_pos (by rw [HOPS.out]; rfl)]
      refine op_val (.bool false) (by go_simp) (hK _ _ ?_)
      clear hK
      simp only [Act.put, List.setIfInBounds_toArray, List.set_cons_zero, List.set_cons_succ]
      refine wpList_step fun K hK => ?_
      rw [if_pos (by rw [HOPS.out]; rfl)]
      refine op_val (.bool false) (by go_simp) (hK _ _ ?_)
      clear hK
      simp only [Act.put, List.setIfInBounds_toArray, List.set_cons_zero, List.set_cons_succ]
      refine wpList_step fun K hK => ?_
      rw [if_pos (by rw [HOPS.out]; rfl)]
      refine op_val (.int .i64 4) (by go_simp) (hK _ _ ?_)
      clear hK
      simp only [Act.put, List.setIfInBounds_toArray, List.set_cons_zero, List.set_cons_succ]
      refine wpList_step fun K hK => ?_
      rw [if_pos (by rw [HOPS.out]; rfl)]
      refine op_val (.bool false) (by go_simp) (hK _ _ ?_)
      clear hK
      simp only [Act.put, List.setIfInBounds_toArray, List.set_cons_zero, List.set_cons_succ]
      refine wpList_step fun K hK => ?_
      rw [if_pos (by rw [HOPS.out]; rfl)]
      refine op_val (.bool false) (by go_simp) (hK _ _ ?_)
      clear hK
      simp only [Act.put, List.setIfInBounds_toArray, List.set_cons_zero, List.set_cons_succ]
      refine wpList_step fun K hK => ?_
      rw [if_pos (by rw [HOPS.out]; rfl)]
      refine op_val (.bool false) (by go_simp) (hK _ _ ?_)
      clear hK
      simp only [Act.put, List.setIfInBounds_toArray, List.set_cons_zero, List.set_cons_succ]
      refine wpList_step fun K hK => ?_
      rw [if_pos (by rw [HOPS.out]; rfl)]
      refine op_val (.pointer (some ⟨gx, 2, none⟩)) (by go_simp) (hK _ _ ?_)
      clear hK
      simp only [Act.put, List.setIfInBounds_toArray, List.set_cons_zero, List.set_cons_succ]
      refine wpList_step fun K hK => ?_
      rw [if_pos (by rw [HOPS.out]; rfl)]
      refine op_val (.int .i64 0) (by go_simp) (hK _ _ ?_)
      clear hK
      simp only [Act.put, List.setIfInBounds_toArray, List.set_cons_zero, List.set_cons_succ]
      refine wpList_step fun K hK => ?_
      rw [if_pos (by rw [HOPS.out]; rfl)]
      refine op_val (.bool true) (by go_simp) (hK _ _ ?_)
      clear hK
      simp only [Act.put, List.setIfInBounds_toArray, List.set_cons_zero, List.set_cons_succ]
      refine wpList_step fun K hK => ?_
      rw [if_pos (by rw [HOPS.out]; rfl)]
      refine op_val (.bool true) (by go_simp) (hK _ _ ?_)
      clear hK
      simp only [Act.put, List.setIfInBounds_toArray, List.set_cons_zero, List.set_cons_succ]
      refine wpList_step fun K hK => ?_
      rw [if_pos (by rfl)]
      refine op_val (.bool true) (by go_simp) (hK _ _ ?_)
      clear hK
      simp only [Act.put, List.setIfInBounds_toArray, List.set_cons_zero, List.set_cons_succ]
      refine wpList_step fun K hK => ?_
      rw [if_pos (by rfl)]
      refine op_val (.bool true) (by go_simp) (hK _ _ ?_)
      clear hK
      simp only [Act.put, List.setIfInBounds_toArray, List.set_cons_zero, List.set_cons_succ]
      refine wpList_step fun K hK => ?_
      rw [if_pos (by rw [HOPS.out]; rfl)]
      refine op_val (.int .i64 4) (by go_simp) (hK _ _ ?_)
      clear hK
      simp only [Act.put, List.setIfInBounds_toArray, List.set_cons_zero, List.set_cons_succ]
      refine wpList_step fun K hK => ?_
      rw [if_pos (by rw [HOPS.out]; rfl)]
      refine op_val (.bool false) (by go_simp) (hK _ _ ?_)
      clear hK
      simp only [Act.put, List.setIfInBounds_toArray, List.set_cons_zero, List.set_cons_succ]
      refine wpList_step fun K hK => ?_
      rw [if_pos (by rw [HOPS.out]; rfl)]
      refine op_val (.bool false) (by go_simp) (hK _ _ ?_)
      clear hK
      simp only [Act.put, List.setIfInBounds_toArray, List.set_cons_zero, List.set_cons_succ]
      refine wpList_step fun K hK => ?_
      rw [if_pos (by rw [HOPS.out]; rfl)]
      refine op_val (.pointer (some ⟨gx, 3, none⟩)) (by go_simp) (hK _ _ ?_)
      clear hK
      simp only [Act.put, List.setIfInBounds_toArray, List.set_cons_zero, List.set_cons_succ]
      refine wpList_step fun K hK => ?_
      rw [if_pos (by rw [HOPS.out]; rfl)]
      refine op_val (.int .i64 0) (by go_simp) (hK _ _ ?_)
      clear hK
      simp only [Act.put, List.setIfInBounds_toArray, List.set_cons_zero, List.set_cons_succ]
      refine wpList_step fun K hK => ?_
      rw [if_pos (by rw [HOPS.out]; rfl)]
      refine op_val (.bool true) (by go_simp) (hK _ _ ?_)
      clear hK
      simp only [Act.put, List.setIfInBounds_toArray, List.set_cons_zero, List.set_cons_succ]
      refine wpList_step fun K hK => ?_
      rw [if_pos (by rw [HOPS.out]; rfl)]
      refine op_val (.bool true) (by go_simp) (hK _ _ ?_)
      clear hK
      simp only [Act.put, List.setIfInBounds_toArray, List.set_cons_zero, List.set_cons_succ]
      refine wpList_step fun K hK => ?_
      rw [if_pos (by rw [HOPS.out]; rfl)]
      refine op_val (.pointer (some ⟨gx, 6, none⟩)) (by go_simp) (hK _ _ ?_)
      clear hK
      simp only [Act.put, List.setIfInBounds_toArray, List.set_cons_zero, List.set_cons_succ]
      refine wpList_step fun K hK => ?_
      rw [if_pos (by rw [HOPS.out]; rfl)]
      refine op_val (.slice kx.b 0 kx.bc) (by go_simp) (hK _ _ ?_)
      clear hK
      simp only [Act.put, List.setIfInBounds_toArray, List.set_cons_zero, List.set_cons_succ]
      refine wpList_step fun K hK => ?_
      rw [if_pos (by rw [HOPS.out]; rfl)]
      refine op_val (.int .i64 0) (by go_simp) (hK _ _ ?_)
      clear hK
      simp only [Act.put, List.setIfInBounds_toArray, List.set_cons_zero, List.set_cons_succ]
      refine wpList_step fun K hK => ?_
      rw [if_pos (by rw [HOPS.out]; rfl)]
      refine op_val (.bool true) (by go_simp) (hK _ _ ?_)
      clear hK
      simp only [Act.put, List.setIfInBounds_toArray, List.set_cons_zero, List.set_cons_succ]
      refine wpList_step fun K hK => ?_
      rw [if_pos (by rw [HOPS.out]; rfl)]
      refine op_val (.bool true) (by go_simp) (hK _ _ ?_)
      clear hK
      simp only [Act.put, List.setIfInBounds_toArray, List.set_cons_zero, List.set_cons_succ]
      refine wpList_step fun K hK => ?_
      rw [if_pos (by rw [HOPS.out]; rfl)]
      refine op_val (.bool true) (by go_simp) (hK _ _ ?_)
      clear hK
      simp only [Act.put, List.setIfInBounds_toArray, List.set_cons_zero, List.set_cons_succ]
      refine wpList_step fun K hK => ?_
      rw [if_pos (by rfl)]
      refine op_val (.bool true) (by go_simp) (hK _ _ ?_)
      clear hK
      simp only [Act.put, List.setIfInBounds_toArray, List.set_cons_zero, List.set_cons_succ]
      refine wpList_step fun K hK => ?_
      rw [if_pos (by rfl)]
      refine op_val (.bool true) (by go_simp) (hK _ _ ?_)
      clear hK
      simp only [Act.put, List.setIfInBounds_toArray, List.set_cons_zero, List.set_cons_succ]
      refine wpList_step fun K hK => ?_
      rw [if_pos (by rw [HOPS.out]; rfl)]
      refine op_val (.int .i64 4) (by go_simp) (hK _ _ ?_)
      clear hK
      simp only [Act.put, List.setIfInBounds_toArray, List.set_cons_zero, List.set_cons_succ]
      refine wpList_step fun K hK => ?_
      rw [if_pos (by rw [HOPS.out]; rfl)]
      refine op_val (.bool true) (by go_simp) (hK _ _ ?_)
      clear hK
      simp only [Act.put, List.setIfInBounds_toArray, List.set_cons_zero, List.set_cons_succ]
      refine wpList_step fun K hK => ?_
      rw [if_pos (by rw [HOPS.out]; rfl)]
      refine op_val (.bool true) (by go_simp) (hK _ _ ?_)
      clear hK
      simp only [Act.put, List.setIfInBounds_toArray, List.set_cons_zero, List.set_cons_succ]
      refine wpList_step fun K hK => ?_
      rw [if_neg (by rw [HOPS.out]; exact Bool.false_ne_true)]
      refine hK _ _ ?_
      clear hK
      simp only [Act.put, List.setIfInBounds_toArray, List.set_cons_zero, List.set_cons_succ]
      refine wpList_step fun K hK => ?_
      rw [if_neg (by rw [HOPS.out]; exact Bool.false_ne_true)]
      refine hK _ _ ?_
      clear hK
      simp only [Act.put, List.setIfInBounds_toArray, List.set_cons_zero, List.set_cons_succ]
      refine wpList_step fun K hK => ?_
      rw [if_neg (by rw [HOPS.out]; exact Bool.false_ne_true)]
      refine hK _ _ ?_
      clear hK
      simp only [Act.put, List.setIfInBounds_toArray, List.set_cons_zero, List.set_cons_succ]
      refine wpList_step fun K hK => ?_
      rw [if_neg (by rw [HOPS.out]; exact Bool.false_ne_true)]
      refine hK _ _ ?_
      clear hK
      simp only [Act.put, List.setIfInBounds_toArray, List.set_cons_zero, List.set_cons_succ]
      refine wpList_step fun K hK => ?_
      rw [if_neg (by rw [HOPS.out]; exact Bool.false_ne_true)]
      refine hK _ _ ?_
      clear hK
      simp only [Act.put, List.setIfInBounds_toArray, List.set_cons_zero, List.set_cons_succ]
      refine wpList_step fun K hK => ?_
      rw [if_neg (by rw [HOPS.out]; exact Bool.false_ne_true)]
      refine hK _ _ ?_
      clear hK
      simp only [Act.put, List.setIfInBounds_toArray, List.set_cons_zero, List.set_cons_succ]
      refine wpList_step fun K hK => ?_
      rw [if_neg (by rw [HOPS.out]; exact Bool.false_ne_true)]
      refine hK _ _ ?_
      clear hK
      simp only [Act.put, List.setIfInBounds_toArray, List.set_cons_zero, List.set_cons_succ]
      refine wpList_step fun K hK => ?_
      rw [if_neg (by rw [HOPS.out]; exact Bool.false_ne_true)]
      refine hK _ _ ?_
      clear hK
      simp only [Act.put, List.setIfInBounds_toArray, List.set_cons_zero, List.set_cons_succ]
      refine wpList_step fun K hK => ?_
      rw [if_neg (by rw [HOPS.out]; exact Bool.false_ne_true)]
      refine hK _ _ ?_
      clear hK
      simp only [Act.put, List.setIfInBounds_toArray, List.set_cons_zero, List.set_cons_succ]
      refine wpList_step fun K hK => ?_
      rw [if_pos (by rw [HOPS.out]; rfl)]
      refine op_val (.bool true) (by go_simp) (hK _ _ ?_)
      clear hK
      simp only [Act.put, List.setIfInBounds_toArray, List.set_cons_zero, List.set_cons_succ]
      refine wpList_step fun K hK => ?_
      rw [if_pos (by rfl)]
      refine op_val (.bool true) (by go_simp) (hK _ _ ?_)
      clear hK
      simp only [Act.put, List.setIfInBounds_toArray, List.set_cons_zero, List.set_cons_succ]
      refine wpList_step fun K hK => ?_
      rw [if_pos (by rfl)]
      refine op_val (.bool true) (by go_simp) (hK _ _ ?_)
      clear hK
      simp only [Act.put, List.setIfInBounds_toArray, List.set_cons_zero, List.set_cons_succ]
      refine wpList_step fun K hK => ?_
      rw [if_pos (by rw [HOPS.out]; rfl)]
      refine op_val (.int .i64 4) (by go_simp) (hK _ _ ?_)
      clear hK
      simp only [Act.put, List.setIfInBounds_toArray, List.set_cons_zero, List.set_cons_succ]
      refine wpList_step fun K hK => ?_
      rw [if_pos (by rw [HOPS.out]; rfl)]
      refine op_val (.bool false) (by go_simp) (hK _ _ ?_)
      clear hK
      simp only [Act.put, List.setIfInBounds_toArray, List.set_cons_zero, List.set_cons_succ]
      refine wpList_step fun K hK => ?_
      rw [if_pos (by rw [HOPS.out]; rfl)]
      refine op_val (.bool false) (by go_simp) (hK _ _ ?_)
      clear hK
      simp only [Act.put, List.setIfInBounds_toArray, List.set_cons_zero, List.set_cons_succ]
      refine wpList_step fun K hK => ?_
      rw [if_pos (by rw [HOPS.out]; rfl)]
      refine op_val (.pointer (some ⟨gx, 7, none⟩)) (by go_simp) (hK _ _ ?_)
      clear hK
      simp only [Act.put, List.setIfInBounds_toArray, List.set_cons_zero, List.set_cons_succ]
      refine wpList_step fun K hK => ?_
      rw [if_pos (by rw [HOPS.out]; rfl)]
      refine op_val (.int .i64 0) (by go_simp) (hK _ _ ?_)
      clear hK
      simp only [Act.put, List.setIfInBounds_toArray, List.set_cons_zero, List.set_cons_succ]
      refine wpList_step fun K hK => ?_
      rw [if_pos (by rw [HOPS.out]; rfl)]
      refine op_val (.bool true) (by go_simp) (hK _ _ ?_)
      clear hK
      simp only [Act.put, List.setIfInBounds_toArray, List.set_cons_zero, List.set_cons_succ]
      refine wpList_step fun K hK => ?_
      rw [if_pos (by rw [HOPS.out]; rfl)]
      refine op_val (.bool true) (by go_simp) (hK _ _ ?_)
      clear hK
      simp only [Act.put, List.setIfInBounds_toArray, List.set_cons_zero, List.set_cons_succ]
      refine wpList_step fun K hK => ?_
      rw [if_pos (by rfl)]
      refine op_val (.bool true) (by go_simp) (hK _ _ ?_)
      clear hK
      simp only [Act.put, List.setIfInBounds_toArray, List.set_cons_zero, List.set_cons_succ]
      refine wpList_step fun K hK => ?_
      rw [if_pos (by rfl)]
      refine op_val (.bool true) (by go_simp) (hK _ _ ?_)
      clear hK
      simp only [Act.put, List.setIfInBounds_toArray, List.set_cons_zero, List.set_cons_succ]
      go_wp2_with fail
      go_ret
      exact ⟨rfl, hxx9⟩
    · rw [named_5 hk] at hX
      rw [hX] at hX9
      have y0 : w9.cell? ⟨gx, 0, none⟩ = some (.int .i64 5) := hX9.cell 0 _ rfl
      have z0 : w9.cell? ⟨g, 0, none⟩ = some (.int .i64 5) := by have q := hC9.cell 0 _ rfl; rwa [hk] at q
      have y8 : w9.cell? ⟨gx, 8, none⟩ = some (.int .i64 0) := hX9.cell 8 _ rfl
      have y14 : w9.cell? ⟨gx, 14, none⟩ = some (.slice kx.c.o 0 kx.c.oc) := hX9.cell 14 _ rfl
      have y16 : w9.cell? ⟨gx, 16, none⟩ = some (.int .i64 0) := hX9.cell 16 _ rfl
      have y18 : w9.cell? ⟨gx, 18, none⟩ = some (.int .i64 0) := hX9.cell 18 _ rfl
      have y3 : w9.cell? ⟨gx, 3, none⟩ = some (.int .i64 0) := hX9.cell 3 _ rfl
      have y6 : w9.cell? ⟨gx, 6, none⟩ = some (.slice kx.b 0 kx.bc) := hX9.cell 6 _ rfl
      have y24 : w9.cell? ⟨gx, 24, none⟩ = some (.slice kx.o 0 kx.oc) := hX9.cell 24 _ rfl
      have y5 : w9.cell? ⟨gx, 5, none⟩ = some (.int .i64 0) := hX9.cell 5 _ rfl
      clear hX hX9 hC9 hk hkd
      go_upto_region 9 with fail
      refine wp_region_lit ?_
      simp only [List.append]
      refine wp_opaque fun OPS hOPS => ?_
      have HOPS := Lib.hid hOPS
      clear hOPS
      refine wpList_step fun K hK => ?_
      rw [if_pos (by rfl)]
      refine op_val (.int .i64 0) (by go_simp) (hK _ _ ?_)
      clear hK
      simp only [Act.put, List.setIfInBounds_toArray, List.set_cons_zero, List.set_cons_succ]
      refine wpList_step fun K hK => ?_
      rw [if_pos (by rfl)]
      refine op_val (.bool true) (by go_simp) (hK _ _ ?_)
      clear hK
      simp only [Act.put, List.setIfInBounds_toArray, List.set_cons_zero, List.set_cons_succ]
      refine wpList_step fun K hK => ?_
      rw [if_pos (by rfl)]
      refine op_val (.bool true) (by go_simp) (hK _ _ ?_)
      clear hK
      simp only [Act.put, List.setIfInBounds_toArray, List.set_cons_zero, List.set_cons_succ]
      refine wpList_step fun K hK => ?_
      rw [if_pos (by rw [HOPS.out]; rfl)]
      refine op_val (.int .i64 0) (by go_simp) (hK _ _ ?_)
      clear hK
      simp only [Act.put, List.setIfInBounds_toArray, List.set_cons_zero, List.set_cons_succ]
      refine wpList_step fun K hK => ?_
      rw [if_pos (by rw [HOPS.out]; rfl)]
      refine op_val (.bool true) (by go_simp) (hK _ _ ?_)
      clear hK
      simp only [Act.put, List.setIfInBounds_toArray, List.set_cons_zero, List.set_cons_succ]
      refine wpList_step fun K hK => ?_
      rw [if_pos (by rfl)]
      refine op_val (.bool true) (by go_simp) (hK _ _ ?_)
      clear hK
      simp only [Act.put, List.setIfInBounds_toArray, List.set_cons_zero, List.set_cons_succ]
      refine wpList_step fun K hK => ?_
      rw [if_pos (by rfl)]
      refine op_val (.bool true) (by go_simp) (hK _ _ ?_)
      clear hK
      simp only [Act.put, List.setIfInBounds_toArray, List.set_cons_zero, List.set_cons_succ]
      refine wpList_step fun K hK => ?_
      rw [if_pos (by rw [HOPS.out]; rfl)]
      refine op_val (.int .i64 5) (by go_simp) (hK _ _ ?_)
      clear hK
      simp only [Act.put, List.setIfInBounds_toArray, List.set_cons_zero, List.set_cons_succ]
      refine wpList_step fun K hK => ?_
      rw [if_pos (by rw [HOPS.out]; rfl)]
      refine op_val (.pointer (some ⟨g, 0, none⟩)) (by go_simp) (hK _ _ ?_)
      clear hK
      simp only [Act.put, List.setIfInBounds_toArray, List.set_cons_zero, List.set_cons_succ]
      refine wpList_step fun K hK => ?_
      rw [if_pos (by rw [HOPS.out]; rfl)]
      refine op_val (.int .i64 5) (by go_simp) (hK _ _ ?_)
      clear hK
      simp only [Act.put, List.setIfInBounds_toArray, List.set_cons_zero, List.set_cons_succ]
      refine wpList_step fun K hK => ?_
      rw [if_pos (by rw [HOPS.out]; rfl)]
      refine op_val (.bool true) (by go_simp) (hK _ _ ?_)
      clear hK
      simp only [Act.put, List.setIfInBounds_toArray, List.set_cons_zero, List.set_cons_succ]
      refine wpList_step fun K hK => ?_
      rw [if_pos (by rfl)]
      refine op_val (.bool true) (by go_simp) (hK _ _ ?_)
      clear hK
      simp only [Act.put, List.setIfInBounds_toArray, List.set_cons_zero, List.set_cons_succ]
      refine wpList_step fun K hK => ?_
      rw [if_pos (by rfl)]
      refine op_val (.bool true) (by go_simp) (hK _ _ ?_)
      clear hK
      simp only [Act.put, List.setIfInBounds_toArray, List.set_cons_zero, List.set_cons_succ]
      refine wpList_step fun K hK => ?_
      rw [if_pos (by rw [HOPS.out]; rfl)]
      refine op_val (.int .i64 5) (by go_simp) (hK _ _ ?_)
      clear hK
      simp only [Act.put, List.setIfInBounds_toArray, List.set_cons_zero, List.set_cons_succ]
      refine wpList_step fun K hK => ?_
      rw [if_pos (by rw [HOPS.out]; rfl)]
      refine op_val (.bool false) (by go_simp) (hK _ _ ?_)
      clear hK
      simp only [Act.put, List.setIfInBounds_toArray, List.set_cons_zero, List.set_cons_succ]
      refine wpList_step fun K hK => ?_
      rw [if_pos (by rw [HOPS.out]; rfl)]
      refine op_val (.bool false) (by go_simp) (hK _ _ ?_)
      clear hK
      simp only [Act.put, List.setIfInBounds_toArray, List.set_cons_zero, List.set_cons_succ]
      refine wpList_step fun K hK => ?_
      rw [if_pos (by rw [HOPS.out]; rfl)]
      refine op_val (.pointer (some ⟨gx, 8, none⟩)) (by go_simp) (hK _ _ ?_)
      clear hK
      simp only [Act.put, List.setIfInBounds_toArray, List.set_cons_zero, List.set_cons_succ]
      refine wpList_step fun K hK => ?_
      rw [if_pos (by rw [HOPS.out]; rfl)]
      refine op_val (.pointer (some ⟨gx, 8, none⟩)) (by go_simp) (hK _ _ ?_)
      clear hK
      simp only [Act.put, List.setIfInBounds_toArray, List.set_cons_zero, List.set_cons_succ]
      refine wpList_step fun K hK => ?_
      rw [if_pos (by rw [HOPS.out]; rfl)]
      refine op_val (.int .i64 0) (by go_simp) (hK _ _ ?_)
      clear hK
      simp only [Act.put, List.setIfInBounds_toArray, List.set_cons_zero, List.set_cons_succ]
      refine wpList_step fun K hK => ?_
      rw [if_pos (by rw [HOPS.out]; rfl)]
      refine op_val (.bool true) (by go_simp) (hK _ _ ?_)
      clear hK
      simp only [Act.put, List.setIfInBounds_toArray, List.set_cons_zero, List.set_cons_succ]
      refine wpList_step fun K hK => ?_
      rw [if_pos (by rw [HOPS.out]; rfl)]
      refine op_val (.bool true) (by go_simp) (hK _ _ ?_)
      clear hK
      simp only [Act.put, List.setIfInBounds_toArray, List.set_cons_zero, List.set_cons_succ]
      refine wpList_step fun K hK => ?_
      rw [if_pos (by rw [HOPS.out]; rfl)]
      refine op_val (.pointer (some ⟨gx, 8, none⟩)) (by go_simp) (hK _ _ ?_)
      clear hK
      simp only [Act.put, List.setIfInBounds_toArray, List.set_cons_zero, List.set_cons_succ]
      refine wpList_step fun K hK => ?_
      rw [if_pos (by rw [HOPS.out]; rfl)]
      refine op_val (.pointer (some ⟨gx, 14, none⟩)) (by go_simp) (hK _ _ ?_)
      clear hK
      simp only [Act.put, List.setIfInBounds_toArray, List.set_cons_zero, List.set_cons_succ]
      refine wpList_step fun K hK => ?_
      rw [if_pos (by rw [HOPS.out]; rfl)]
      refine op_val (.slice kx.c.o 0 kx.c.oc) (by go_simp) (hK _ _ ?_)
      clear hK
      simp only [Act.put, List.setIfInBounds_toArray, List.set_cons_zero, List.set_cons_succ]
      refine wpList_step fun K hK => ?_
      rw [if_pos (by rw [HOPS.out]; rfl)]
      refine op_val (.int .i64 0) (by go_simp) (hK _ _ ?_)
      clear hK
      simp only [Act.put, List.setIfInBounds_toArray, List.set_cons_zero, List.set_cons_succ]
      refine wpList_step fun K hK => ?_
      rw [if_pos (by rw [HOPS.out]; rfl)]
      refine op_val (.bool true) (by go_simp) (hK _ _ ?_)
      clear hK
      simp only [Act.put, List.setIfInBounds_toArray, List.set_cons_zero, List.set_cons_succ]
      refine wpList_step fun K hK => ?_
      rw [if_pos (by rw [HOPS.out]; rfl)]
      refine op_val (.bool true) (by go_simp) (hK _ _ ?_)
      clear hK
      simp only [Act.put, List.setIfInBounds_toArray, List.set_cons_zero, List.set_cons_succ]
      refine wpList_step fun K hK => ?_
      rw [if_pos (by rw [HOPS.out]; rfl)]
      refine op_val (.bool true) (by go_simp) (hK _ _ ?_)
      clear hK
      simp only [Act.put, List.setIfInBounds_toArray, List.set_cons_zero, List.set_cons_succ]
      refine wpList_step fun K hK => ?_
      rw [if_pos (by rfl)]
      refine op_val (.bool true) (by go_simp) (hK _ _ ?_)
      clear hK
      simp only [Act.put, List.setIfInBounds_toArray, List.set_cons_zero, List.set_cons_succ]
      refine wpList_step fun K hK => ?_
      rw [if_pos (by rfl)]
      refine op_val (.bool true) (by go_simp) (hK _ _ ?_)
      clear hK
      simp only [Act.put, List.setIfInBounds_toArray, List.set_cons_zero, List.set_cons_succ]
      refine wpList_step fun K hK => ?_
      rw [if_pos (by rw [HOPS.out]; rfl)]
      refine op_val (.int .i64 5) (by go_simp) (hK _ _ ?_)
      clear hK
      simp only [Act.put, List.setIfInBounds_toArray, List.set_cons_zero, List.set_cons_succ]
      refine wpList_step fun K hK => ?_
      rw [if_pos (by rw [HOPS.out]; rfl)]
      refine op_val (.bool false) (by go_simp) (hK _ _ ?_)
      clear hK
      simp only [Act.put, List.setIfInBounds_toArray, List.set_cons_zero, List.set_cons_succ]
      refine wpList_step fun K hK => ?_
      rw [if_pos (by rw [HOPS.out]; rfl)]
      refine op_val (.bool false) (by go_simp) (hK _ _ ?_)
      clear hK
      simp only [Act.put, List.setIfInBounds_toArray, List.set_cons_zero, List.set_cons_succ]
      refine wpList_step fun K hK => ?_
      rw [if_pos (by rw [HOPS.out]; rfl)]
      refine op_val (.pointer (some ⟨gx, 15, none⟩)) (by go_simp) (hK _ _ ?_)
      clear hK
      simp only [Act.put, List.setIfInBounds_toArray, List.set_cons_zero, List.set_cons_succ]
      refine wpList_step fun K hK => ?_
      rw [if_pos (by rw [HOPS.out]; rfl)]
      refine op_val (.pointer (some ⟨gx, 16, none⟩)) (by go_simp) (hK _ _ ?_)
      clear hK
      simp only [Act.put, List.setIfInBounds_toArray, List.set_cons_zero, List.set_cons_succ]
      refine wpList_step fun K hK => ?_
      rw [if_pos (by rw [HOPS.out]; rfl)]
      refine op_val (.int .i64 0) (by go_simp) (hK _ _ ?_)
      clear hK
      simp only [Act.put, List.setIfInBounds_toArray, List.set_cons_zero, List.set_cons_succ]
      refine wpList_step fun K hK => ?_
      rw [if_pos (by rw [HOPS.out]; rfl)]
      refine op_val (.bool true) (by go_simp) (hK _ _ ?_)
      clear hK
      simp only [Act.put, List.setIfInBounds_toArray, List.set_cons_zero, List.set_cons_succ]
      refine wpList_step fun K hK => ?_
      rw [if_pos (by rw [HOPS.out]; rfl)]
      refine op_val (.bool true) (by go_simp) (hK _ _ ?_)
      clear hK
      simp only [Act.put, List.setIfInBounds_toArray, List.set_cons_zero, List.set_cons_succ]
      refine wpList_step fun K hK => ?_
      rw [if_pos (by rw [HOPS.out]; rfl)]
      refine op_val (.pointer (some ⟨gx, 15, none⟩)) (by go_simp) (hK _ _ ?_)
      clear hK
      simp only [Act.put, List.setIfInBounds_toArray, List.set_cons_zero, List.set_cons_succ]
      refine wpList_step fun K hK => ?_
      rw [if_pos (by rw [HOPS.out]; rfl)]
      refine op_val (.pointer (some ⟨gx, 17, none⟩)) (by go_simp) (hK _ _ ?_)
      clear hK
      simp only [Act.put, List.setIfInBounds_toArray, List.set_cons_zero, List.set_cons_succ]
      refine wpList_step fun K hK => ?_
      rw [if_pos (by rw [HOPS.out]; rfl)]
      refine op_val (.pointer (some ⟨gx, 18, none⟩)) (by go_simp) (hK _ _ ?_)
      clear hK
      simp only [Act.put, List.setIfInBounds_toArray, List.set_cons_zero, List.set_cons_succ]
      refine wpList_step fun K hK => ?_
      rw [if_pos (by rw [HOPS.out]; rfl)]
      refine op_val (.int .i64 0) (by go_simp) (hK _ _ ?_)
      clear hK
      simp only [Act.put, List.setIfInBounds_toArray, List.set_cons_zero, List.set_cons_succ]
      refine wpList_step fun K hK => ?_
      rw [if_pos (by rw [HOPS.out]; rfl)]
      refine op_val (.bool true) (by go_simp) (hK _ _ ?_)
      clear hK
      simp only [Act.put, List.setIfInBounds_toArray, List.set_cons_zero, List.set_cons_succ]
      refine wpList_step fun K hK => ?_
      rw [if_pos (by rw [HOPS.out]; rfl)]
      refine op_val (.bool true) (by go_simp) (hK _ _ ?_)
      clear hK
      simp only [Act.put, List.setIfInBounds_toArray, List.set_cons_zero, List.set_cons_succ]
      refine wpList_step fun K hK => ?_
      rw [if_pos (by rw [HOPS.out]; rfl)]
      refine op_val (.bool true) (by go_simp) (hK _ _ ?_)
      clear hK
      simp only [Act.put, List.setIfInBounds_toArray, List.set_cons_zero, List.set_cons_succ]
      refine wpList_step fun K hK => ?_
      rw [if_pos (by rfl)]
      refine op_val (.bool true) (by go_simp) (hK _ _ ?_)
      clear hK
      simp only [Act.put, List.setIfInBounds_toArray, List.set_cons_zero, List.set_cons_succ]
      refine wpList_step fun K hK => ?_
      rw [if_pos (by rfl)]
      refine op_val (.bool true) (by go_simp) (hK _ _ ?_)
      clear hK
      simp only [Act.put, List.setIfInBounds_toArray, List.set_cons_zero, List.set_cons_succ]
      refine wpList_step fun K hK => ?_
      rw [if_pos (by rw [HOPS.out]; rfl)]
      refine op_val (.int .i64 5) (by go_simp) (hK _ _ ?_)
      clear hK
      simp only [Act.put, List.setIfInBounds_toArray, List.set_cons_zero, List.set_cons_succ]
      refine wpList_step fun K hK => ?_
      rw [if_pos (by rw [HOPS.out]; rfl)]
      refine op_val (.bool false) (by go_simp) (hK _ _ ?_)
      clear hK
      simp only [Act.put, List.setIfInBounds_toArray, List.set_cons_zero, List.set_cons_succ]
      refine wpList_step fun K hK => ?_
      rw [if_pos (by rw [HOPS.out]; rfl)]
      refine op_val (.bool false) (by go_simp) (hK _ _ ?_)
      clear hK
      simp only [Act.put, List.setIfInBounds_toArray, List.set_cons_zero, List.set_cons_succ]
      refine wpList_step fun K hK => ?_
      rw [if_pos (by rw [HOPS.out]; rfl)]
      refine op_val (.int .i64 5) (by go_simp) (hK _ _ ?_)
      clear hK
      simp only [Act.put, List.setIfInBounds_toArray, List.set_cons_zero, List.set_cons_succ]
      refine wpList_step fun K hK => ?_
      rw [if_pos (by rw [HOPS.out]; rfl)]
      refine op_val (.bool true) (by go_simp) (hK _ _ ?_)
      clear hK
      simp only [Act.put, List.setIfInBounds_toArray, List.set_cons_zero, List.set_cons_succ]
      refine wpList_step fun K hK => ?_
      rw [if_pos (by rw [HOPS.out]; rfl)]
      refine op_val (.bool true) (by go_simp) (hK _ _ ?_)
      clear hK
      simp only [Act.put, List.setIfInBounds_toArray, List.set_cons_zero, List.set_cons_succ]
      refine wpList_step fun K hK => ?_
      rw [if_pos (by rw [HOPS.out]; rfl)]
      refine op_val (.bool true) (by go_simp) (hK _ _ ?_)
      clear hK
      simp only [Act.put, List.setIfInBounds_toArray, List.set_cons_zero, List.set_cons_succ]
      refine wpList_step fun K hK => ?_
      rw [if_neg (by rw [HOPS.out]; exact Bool.false_ne_true)]
      refine hK _ _ ?_
      clear hK
      simp only [Act.put, List.setIfInBounds_toArray, List.set_cons_zero, List.set_cons_succ]
      refine wpList_step fun K hK => ?_
      rw [if_neg (by rw [HOPS.out]; exact Bool.false_ne_true)]
      refine hK _ _ ?_
      clear hK
      simp only [Act.put, List.setIfInBounds_toArray, List.set_cons_zero, List.set_cons_succ]
      refine wpList_step fun K hK => ?_
      rw [if_neg (by rw [HOPS.out]; exact Bool.false_ne_true)]
      refine hK _ _ ?_
      clear hK
      simp only [Act.put, List.setIfInBounds_toArray, List.set_cons_zero, List.set_cons_succ]
      refine wpList_step fun K hK => ?_
      rw [if_pos (by rw [HOPS.out]; rfl)]
      refine op_val (.bool true) (by go_simp) (hK _ _ ?_)
      clear hK
      simp only [Act.put, List.setIfInBounds_toArray, List.set_cons_zero, List.set_cons_succ]
      refine wpList_step fun K hK => ?_
      rw [if_pos (by rfl)]
      refine op_val (.bool true) (by go_simp) (hK _ _ ?_)
      clear hK
      simp only [Act.put, List.setIfInBounds_toArray, List.set_cons_zero, List.set_cons_succ]
      refine wpList_step fun K hK => ?_
      rw [if_pos (by rfl)]
      refine op_val (.bool true) (by go_simp) (hK _ _ ?_)
      clear hK
      simp only [Act.put, List.setIfInBounds_toArray, List.set_cons_zero, List.set_cons_succ]
      refine wpList_step fun K hK => ?_
      rw [if_pos (by rw [HOPS.out]; rfl)]
      refine op_val (.int .i64 5) (by go_simp) (hK _ _ ?_)
      clear hK
      simp only [Act.put, List.setIfInBounds_toArray, List.set_cons_zero, List.set_cons_succ]
      refine wpList_step fun K hK => ?_
      rw [if_pos (by rw [HOPS.out]; rfl)]
      refine op_val (.bool false) (by go_simp) (hK _ _ ?_)
      clear hK
      simp only [Act.put, List.setIfInBounds_toArray, List.set_cons_zero, List.set_cons_succ]
      refine wpList_step fun K hK => ?_
      rw [if_pos (by rw [HOPS.out]; rfl)]
      refine op_val (.bool false) (by go_simp) (hK _ _ ?_)
      clear hK
      simp only [Act.put, List.setIfInBounds_toArray, List.set_cons_zero, List.set_cons_succ]
      refine wpList_step fun K hK => ?_
      rw [if_pos (by rw [HOPS.out]; rfl)]
      refine op_val (.pointer (some ⟨gx, 3, none⟩)) (by go_simp) (hK _ _ ?_)
      clear hK
      simp only [Act.put, List.setIfInBounds_toArray, List.set_cons_zero, List.set_cons_succ]
      refine wpList_step fun K hK => ?_
      rw [if_pos (by rw [HOPS.out]; rfl)]
      refine op_val (.int .i64 0) (by go_simp) (hK _ _ ?_)
      clear hK
      simp only [Act.put, List.setIfInBounds_toArray, List.set_cons_zero, List.set_cons_succ]
      refine wpList_step fun K hK => ?_
      rw [if_pos (by rw [HOPS.out]; rfl)]
      refine op_val (.bool true) (by go_simp) (hK _ _ ?_)
      clear hK
      simp only [Act.put, List.setIfInBounds_toArray, List.set_cons_zero, List.set_cons_succ]
      refine wpList_step fun K hK => ?_
      rw [if_pos (by rw [HOPS.out]; rfl)]
      refine op_val (.bool true) (by go_simp) (hK _ _ ?_)
      clear hK
      simp only [Act.put, List.setIfInBounds_toArray, List.set_cons_zero, List.set_cons_succ]
      refine wpList_step fun K hK => ?_
      rw [if_pos (by rw [HOPS.out]; rfl)]
      refine op_val (.pointer (some ⟨gx, 6, none⟩)) (by go_simp) (hK _ _ ?_)
      clear hK
      simp only [Act.put, List.setIfInBounds_toArray, List.set_cons_zero, List.set_cons_succ]
      refine wpList_step fun K hK => ?_
      rw [if_pos (by rw [HOPS.out]; rfl)]
      refine op_val (.slice kx.b 0 kx.bc) (by go_simp) (hK _ _ ?_)
      clear hK
      simp only [Act.put, List.setIfInBounds_toArray, List.set_cons_zero, List.set_cons_succ]
      refine wpList_step fun K hK => ?_
      rw [if_pos (by rw [HOPS.out]; rfl)]
      refine op_val (.int .i64 0) (by go_simp) (hK _ _ ?_)
      clear hK
      simp only [Act.put, List.setIfInBounds_toArray, List.set_cons_zero, List.set_cons_succ]
      refine wpList_step fun K hK => ?_
      rw [if_pos (by rw [HOPS.out]; rfl)]
      refine op_val (.bool true) (by go_simp) (hK _ _ ?_)
      clear hK
      simp only [Act.put, List.setIfInBounds_toArray, List.set_cons_zero, List.set_cons_succ]
      refine wpList_step fun K hK => ?_
      rw [if_pos (by rw [HOPS.out]; rfl)]
      refine op_val (.bool true) (by go_simp) (hK _ _ ?_)
      clear hK
      simp only [Act.put, List.setIfInBounds_toArray, List.set_cons_zero, List.set_cons_succ]
      refine wpList_step fun K hK => ?_
      rw [if_pos (by rw [HOPS.out]; rfl)]
      refine op_val (.bool true) (by go_simp) (hK _ _ ?_)
      clear hK
      simp only [Act.put, List.setIfInBounds_toArray, List.set_cons_zero, List.set_cons_succ]
      refine wpList_step fun K hK => ?_
      rw [if_pos (by rfl)]
      refine op_val (.bool true) (by go_simp) (hK _ _ ?_)
      clear hK
      simp only [Act.put, List.setIfInBounds_toArray, List.set_cons_zero, List.set_cons_succ]
      refine wpList_step fun K hK => ?_
      rw [if_pos (by rfl)]
      refine op_val (.bool true) (by go_simp) (hK _ _ ?_)
      clear hK
      simp only [Act.put, List.setIfInBounds_toArray, List.set_cons_zero, List.set_cons_succ]
      refine wpList_step fun K hK => ?_
      rw [if_pos (by rw [HOPS.out]; rfl)]
      refine op_val (.int .i64 5) (by go_simp) (hK _ _ ?_)
      clear hK
      simp only [Act.put, List.setIfInBounds_toArray, List.set_cons_zero, List.set_cons_succ]
      refine wpList_step fun K hK => ?_
      rw [if_pos (by rw [HOPS.out]; rfl)]
      refine op_val (.bool false) (by go_simp) (hK _ _ ?_)
      clear hK
      simp only [Act.put, List.setIfInBounds_toArray, List.set_cons_zero, List.set_cons_succ]
      refine wpList_step fun K hK => ?_
      rw [if_pos (by rw [HOPS.out]; rfl)]
      refine op_val (.bool false) (by go_simp) (hK _ _ ?_)
      clear hK
      simp only [Act.put, List.setIfInBounds_toArray, List.set_cons_zero, List.set_cons_succ]
      refine wpList_step fun K hK => ?_
      rw [if_pos (by rw [HOPS.out]; rfl)]
      refine op_val (.pointer (some ⟨gx, 24, none⟩)) (by go_simp) (hK _ _ ?_)
      clear hK
      simp only [Act.put, List.setIfInBounds_toArray, List.set_cons_zero, List.set_cons_succ]
      refine wpList_step fun K hK => ?_
      rw [if_pos (by rw [HOPS.out]; rfl)]
      refine op_val (.slice kx.o 0 kx.oc) (by go_simp) (hK _ _ ?_)
      clear hK
      simp only [Act.put, List.setIfInBounds_toArray, List.set_cons_zero, List.set_cons_succ]
      refine wpList_step fun K hK => ?_
      rw [if_pos (by rw [HOPS.out]; rfl)]
      refine op_val (.int .i64 0) (by go_simp) (hK _ _ ?_)
      clear hK
      simp only [Act.put, List.setIfInBounds_toArray, List.set_cons_zero, List.set_cons_succ]
      refine wpList_step fun K hK => ?_
      rw [if_pos (by rw [HOPS.out]; rfl)]
      refine op_val (.bool true) (by go_simp) (hK _ _ ?_)
      clear hK
      simp only [Act.put, List.setIfInBounds_toArray, List.set_cons_zero, List.set_cons_succ]
      refine wpList_step fun K hK => ?_
      rw [if_pos (by rw [HOPS.out]; rfl)]
      refine op_val (.bool true) (by go_simp) (hK _ _ ?_)
      clear hK
      simp only [Act.put, List.setIfInBounds_toArray, List.set_cons_zero, List.set_cons_succ]
      refine wpList_step fun K hK => ?_
      rw [if_pos (by rw [HOPS.out]; rfl)]
      refine op_val (.pointer (some ⟨gx, 5, none⟩)) (by go_simp) (hK _ _ ?_)
      clear hK
      simp only [Act.put, List.setIfInBounds_toArray, List.set_cons_zero, List.set_cons_succ]
      refine wpList_step fun K hK => ?_
      rw [if_pos (by rw [HOPS.out]; rfl)]
      refine op_val (.int .i64 0) (by go_simp) (hK _ _ ?_)
      clear hK
      simp only [Act.put, List.setIfInBounds_toArray, List.set_cons_zero, List.set_cons_succ]
      refine wpList_step fun K hK => ?_
      rw [if_pos (by rw [HOPS.out]; rfl)]
      refine op_val (.bool true) (by go_simp) (hK _ _ ?_)
      clear hK
      simp only [Act.put, List.setIfInBounds_toArray, List.set_cons_zero, List.set_cons_succ]
      refine wpList_step fun K hK => ?_
      rw [if_pos (by rw [HOPS.out]; rfl)]
      refine op_val (.bool true) (by go_simp) (hK _ _ ?_)
      clear hK
      simp only [Act.put, List.setIfInBounds_toArray, List.set_cons_zero, List.set_cons_succ]
      refine wpList_step fun K hK => ?_
      rw [if_pos (by rw [HOPS.out]; rfl)]
      refine op_val (.bool true) (by go_simp) (hK _ _ ?_)
      clear hK
      simp only [Act.put, List.setIfInBounds_toArray, List.set_cons_zero, List.set_cons_succ]
      refine wpList_step fun K hK => ?_
      rw [if_pos (by rfl)]
      refine op_val (.bool true) (by go_simp) (hK _ _ ?_)
      clear hK
      simp only [Act.put, List.setIfInBounds_toArray, List.set_cons_zero, List.set_cons_succ]
      refine wpList_step fun K hK => ?_
      rw [if_pos (by rfl)]
      refine op_val (.bool true) (by go_simp) (hK _ _ ?_)
      clear hK
      simp only [Act.put, List.setIfInBounds_toArray, List.set_cons_zero, List.set_cons_succ]
      refine wpList_step fun K hK => ?_
      rw [if_pos (by rw [HOPS.out]; rfl)]
      refine op_val (.int .i64 5) (by go_simp) (hK _ _ ?_)
      clear hK
      simp only [Act.put, List.setIfInBounds_toArray, List.set_cons_zero, List.set_cons_succ]
      refine wpList_step fun K hK => ?_
      rw [if_pos (by rw [HOPS.out]; rfl)]
      refine op_val (.bool true) (by go_simp) (hK _ _ ?_)
      clear hK
      simp only [Act.put, List.setIfInBounds_toArray, List.set_cons_zero, List.set_cons_succ]
      refine wpList_step fun K hK => ?_
      rw [if_pos (by rw [HOPS.out]; rfl)]
      refine op_val (.bool true) (by go_simp) (hK _ _ ?_)
      clear hK
      simp only [Act.put, List.setIfInBounds_toArray, List.set_cons_zero, List.set_cons_succ]
      refine wpList_step fun K hK => ?_
      rw [if_neg (by rw [HOPS.out]; exact Bool.false_ne_true)]
      refine hK _ _ ?_
      clear hK
      simp only [Act.put, List.setIfInBounds_toArray, List.set_cons_zero, List.set_cons_succ]
      refine wpList_step fun K hK => ?_
      rw [if_neg (by rw [HOPS.out]; exact Bool.false_ne_true)]
      refine hK _ _ ?_
      clear hK
      simp only [Act.put, List.setIfInBounds_toArray, List.set_cons_zero, List.set_cons_succ]
      refine wpList_step fun K hK => ?_
      rw [if_neg (by rw [HOPS.out]; exact Bool.false_ne_true)]
      refine hK _ _ ?_
      clear hK
      simp only [Act.put, List.setIfInBounds_toArray, List.set_cons_zero, List.set_cons_succ]
      refine wpList_step fun K hK => ?_
      rw [if_pos (by rw [HOPS.out]; rfl)]
      refine op_val (.bool true) (by go_simp) (hK _ _ ?_)
      clear hK
      simp only [Act.put, List.setIfInBounds_toArray, List.set_cons_zero, List.set_cons_succ]
      refine wpList_step fun K hK => ?_
      rw [if_pos (by rfl)]
      refine op_val (.bool true) (by go_simp) (hK _ _ ?_)
      clear hK
      simp only [Act.put, List.setIfInBounds_toArray, List.set_cons_zero, List.set_cons_succ]
      refine wpList_step fun K hK => ?_
      rw [if_pos (by rfl)]
      refine op_val (.bool true) (by go_simp) (hK _ _ ?_)
      clear hK
      simp only [Act.put, List.setIfInBounds_toArray, List.set_cons_zero, List.set_cons_succ]
      go_wp2_with fail
      go_ret
      exact ⟨rfl, hxx9⟩
end Go.Proofs.Ytddobhihjljcgaa
