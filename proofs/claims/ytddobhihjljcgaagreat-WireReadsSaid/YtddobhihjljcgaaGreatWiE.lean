/- Parse of bytes that are no frame; within, known. -/
import Derived.Test.YtddobhihjljcgaaGreatWiD
import Derived.Laws.ResultCell
namespace Go.Proofs.YtddobhihjljcgaaGreat
open Go.RowKit Go.Esc
set_option linter.unusedVariables false
set_option linter.unusedSimpArgs false
section
variable {ops : Array Oper} {rest : List Oper} {op : Oper} {a : Act} {w : World} {Q : Exit → Act → World → Prop} {m : MsgR} {h : MsgA} {g : Nat}
theorem build0 (w : World) : (Instr.build 36 #[]).run Tryz.prog w = .ok (MsgR.zero.val MsgA.zero) w := by kernel_rfl
theorem wp_build0 (hgd : op.guard = none) (ho : op.op = .build 36 #[])
  (hk : wpList Tryz.prog ops Q rest (a.put op.dst (MsgR.zero.val MsgA.zero)) w) : wpList Tryz.prog ops Q (op :: rest) a w := by
 refine wpList_plain hgd fun K hK => ?_
 unfold Oper.wp execOp
 simp only [ho, List.map_toArray, List.map_nil, Sem.run_bind, Sem.run_pure]
 rw [show (Instr.build 36 (List.toArray [])).run Tryz.prog w = .ok (MsgR.zero.val MsgA.zero) w from build0 w]
 exact hK _ _ hk
theorem wp_move {x : Operand} (v : Value) (hgd : op.guard = none) (ho : op.op = .move x) (hx : a.eval x = v) (hk : wpList Tryz.prog ops Q rest (a.put op.dst v) w) : wpList Tryz.prog ops Q (op :: rest) a w := by
 refine wpList_plain hgd fun K hK => ?_
 unfold Oper.wp execOp
 simp only [ho, hx, Sem.run_pure]
 exact hK _ _ hk
theorem wp_extract {x : Operand} {i : Nat} {vs : Array Value} {v : Value} (hgd : op.guard = none) (ho : op.op = .extract x i) (hx : a.eval x = .tuple vs) (hv : vs[i]? = some v) (hk : wpList Tryz.prog ops Q rest (a.put op.dst v) w) : wpList Tryz.prog ops Q (op :: rest) a w := by
 refine wpList_plain hgd fun K hK => ?_
 unfold Oper.wp execOp
 simp only [ho, hx, Instr.extract, hv, Sem.run_pure]
 exact hK _ _ hk
theorem wp_assign {x : Operand} (v : Value) (hgd : op.guard = none) (ho : op.op = .assign x) (hx : a.eval x = v) (hk : wpList Tryz.prog ops Q rest (a.put op.dst v) w) : wpList Tryz.prog ops Q (op :: rest) a w := by
 refine wpList_plain hgd fun K hK => ?_
 unfold Oper.wp execOp
 simp only [ho, hx, Sem.run_pure]
 exact hK _ _ hk
theorem load_msg (hC : Blk w g (m.cells h)) : (loadVar 36 ⟨g, 0, none⟩).run Tryz.prog w = .ok (m.val h) w :=
 run_loadVar_mid w g 0 36 (m.cells h) _ hC.range Tryz.underlying36 rfl (by kernel_rfl)
end
theorem parse_results {fn : Func} {p u : Tmp} (hf : fn.results = #[.cell p 36, .tmp u]) (tmps : Array Value) (w : World) {g : Nat} {m : MsgR} {h : MsgA} {v : Value} (h1 : tmps.getD p undef = .pointer (some ⟨g, 0, none⟩)) (h2 : tmps.getD u undef = v) (hC : Blk w g (m.cells h)) :
  (results fn tmps).run Tryz.prog w = .ok (.tuple #[m.val h, v]) w := by
 rw [results_cell_tmp hf, h1, h2]
 simp only [asAddr, Sem.run_pure, Result.andThen_ok, load_msg hC]
set_option maxRecDepth 100000 in
set_option maxHeartbeats 4000000 in
theorem wparse_bad (w : World) (a : Option Addr) (c : Nat) (l : List UInt8) (k : Nat) (hrd : Rd w a (bs l)) (hl : l.length ≤ 1099511627776) (hlc : l.length ≤ c) (h1 : one l = ([], k)) (hk : k ≠ 0) :
  Calls Tryz.prog 11 #[.slice a l.length c] w fun e w' => e = .returned (.tuple #[MsgR.zero.val MsgA.zero, .int .i64 (k : Nat)]) ∧ Ext no w w' := by
 have H1 := Lib.hid h1
 have t0 : ((k : Int) != 0) = true := by rw [bne_iff_ne]; omega
 have t0' : (k != 0) = true := by rw [bne_iff_ne]; exact hk
 have t0'' : ((k : Int) == 0) = false := by rw [beq_eq_false_iff_ne]; omega
 clear h1 hk
 go_enter Tryz.func11, Tryz.ntmps11
 go_upto_region 0 with fail
 refine wp_region_lit ?_
 refine wp_alloc_msg rfl rfl (fun hC => ?_)
 simp only [pz]
 have hxa := Ext.alloc no w (.cells (MsgR.zero.cells MsgA.zero).toArray 36)
 have hr1 := hrd.ext hxa (fun _ _ h => h)
 generalize w.alloc (.cells (MsgR.zero.cells MsgA.zero).toArray 36) = w1 at *
 obtain ⟨g, hg⟩ : ∃ g, g = w.heap.size := ⟨_, rfl⟩
 rw [← hg] at hC ⊢
 have hgw : w.heap.size ≤ g := by omega
 clear hg
 go_wp2_with fail
 refine (fone_any w1 a c l hr1 hl hlc).mono ?_
 rintro e w2 ⟨a2, c2, rfl, _, hx2⟩
 rw [H1.out]
 have hC2 := hC.ext (msg_ne _ _) hx2 (fun h => h)
 have hxx := hxa.comp hx2
 clear hC hxa hx2 hr1
 go_upto_region 3 with fail
 refine wp_region_lit ?_
 refine wp_build0 rfl rfl ?_
 simp only [pz]
 refine wp_move (.int .i64 (k : Nat)) rfl rfl (by rfl) ?_
 simp only [pz]
 refine wp_store_msg rfl rfl (by rfl) (by rfl) hC2 rfl (fun hC3 hx3 => ?_)
 simp only [pz]
 have hx4 := hxx.trans hx3 (fun q hq e => by have e : q = g := e; omega)
 generalize w2.setCells g 0 (MsgR.zero.cells MsgA.zero) = w3 at *
 go_wp2_with fail
 refine bodyPost_ret (v := .tuple #[MsgR.zero.val MsgA.zero, .int .i64 (k : Nat)]) ?_ rfl ⟨rfl, hx4⟩
 exact parse_results rfl _ _ (by rfl) (by rfl) hC3
set_option maxHeartbeats 400000 in
theorem wiwithin_any (a n : Int) (w : World) (h1 : 0 < n) (h2 : n ≤ 4611686018427387904) (h3 : I64ok a) :
  Calls Tryz.prog 9 #[.int .i64 a, .int .i64 n] w fun e w' => e = .returned (.int .i64 (a % n)) ∧ w = w' := by
 obtain ⟨h3, h4⟩ := h3
 have hb := Int.tmod_lt_of_pos a h1
 have hb' : -n ≤ a.tmod n := by
  have := tmod_pos a n h1
  have e1 := Int.emod_nonneg a (show n ≠ 0 by omega)
  have e2 := Int.emod_lt_of_pos a h1
  generalize a % n = q at *
  split at this <;> omega
 have he := tmod_pos a n h1
 have He := Lib.hid he
 clear he
 by_cases hn : a.tmod n < 0
 ·go_enter Tryz.func9, Tryz.ntmps9
  go_wp2
  go_ret
  exact ⟨by rw [He.out, if_pos (by omega)]; rfl, rfl⟩
 ·go_enter Tryz.func9, Tryz.ntmps9
  go_wp2
  go_ret
  exact ⟨by rw [He.out, if_neg (by omega)]; rfl, rfl⟩
def kMsg : MsgR := { MsgR.zero with kind := 5, dev := 2, req := 1, err := 22 }
theorem zeroCmd_ok : CmdR.zero.ok := ⟨by unfold I64ok CmdR.zero; simp, by unfold I64ok CmdR.zero; simp, by unfold I64ok CmdR.zero; simp, by unfold I64ok CmdR.zero; simp, by unfold I64ok CmdR.zero; simp, (fun x hx => by cases hx), (fun x hx => by cases hx)⟩
theorem zeroReply_ok : ReplyR.zero.ok := ⟨by unfold I64ok ReplyR.zero; simp, by unfold I64ok ReplyR.zero; simp, by unfold I64ok ReplyR.zero; simp, by unfold I64ok ReplyR.zero; simp, by unfold I64ok ReplyR.zero; simp, by unfold I64ok ReplyR.zero; simp, (fun x hx => by cases hx), (fun x hx => by cases hx), (fun x hx => by cases hx)⟩
theorem zeroCmd_few : CmdR.zero.few := ⟨Nat.zero_le _, (fun x hx => by cases hx), Nat.zero_le _, (fun x hx => by cases hx)⟩
theorem zeroReply_few : ReplyR.zero.few := ⟨Nat.zero_le _, (fun x hx => by cases hx), Nat.zero_le _, Nat.zero_le _⟩
theorem kMsg_ok : kMsg.ok := ⟨by unfold I64ok kMsg; simp, by unfold I64ok kMsg; simp, by unfold I64ok kMsg; simp, by unfold I64ok kMsg MsgR.zero; simp, by unfold I64ok kMsg MsgR.zero; simp, by unfold I64ok kMsg MsgR.zero; simp, by unfold I64ok kMsg; simp, zeroCmd_ok, zeroReply_ok, (fun x hx => by cases hx)⟩
theorem kMsg_few : kMsg.few := ⟨Nat.zero_le _, zeroCmd_few, zeroReply_few, Nat.zero_le _, (fun x hx => by cases hx)⟩
theorem kMsg_in (w : World) : kMsg.In w MsgA.zero := ⟨Rd.nil _ _, CmdR.In.zero w, ReplyR.In.zero w, OpsIn.nil _ _, Nat.le_refl _, Nat.zero_le _, Nat.le_refl _, Nat.zero_le _⟩
theorem kMsg_err : bytesErr kMsg = 0 := by decide
theorem buildK (w : World) : (Instr.build 36 #[(0, .int .i64 5), (1, .int .i64 2), (2, .int .i64 1), (7, .int .i64 22)]).run Tryz.prog w = .ok (kMsg.val MsgA.zero) w := by kernel_rfl
theorem wp_buildK {ops : Array Oper} {rest : List Oper} {op : Oper} {a : Act} {w : World} {Q : Exit → Act → World → Prop} (hgd : op.guard = none) (ho : op.op = .build 36 #[(0, .const (.int .i64 5)), (1, .const (.int .i64 2)), (2, .const (.int .i64 1)), (7, .const (.int .i64 22))])
  (hk : wpList Tryz.prog ops Q rest (a.put op.dst (kMsg.val MsgA.zero)) w) : wpList Tryz.prog ops Q (op :: rest) a w := by
 refine wpList_plain hgd fun K hK => ?_
 unfold Oper.wp execOp
 simp only [ho, List.map_toArray, List.map_cons, List.map_nil, Sem.run_bind, Sem.run_pure]
 have hb : (Instr.build 36 #[(0, a.eval (.const (.int .i64 5))), (1, a.eval (.const (.int .i64 2))), (2, a.eval (.const (.int .i64 1))), (7, a.eval (.const (.int .i64 22)))]).run Tryz.prog w = .ok (kMsg.val MsgA.zero) w := buildK w
 rw [hb]
 exact hK _ _ hk
set_option maxRecDepth 100000 in
set_option maxHeartbeats 4000000 in
theorem wiknown_any (w : World) : Calls Tryz.prog 4 #[] w fun e w' => e = .returned (.bool true) ∧ Ext no w w' := by
 go_enter Tryz.func4, Tryz.ntmps4
 go_upto_region 1 with fail
 refine wp_region_lit ?_
 refine wp_buildK rfl rfl ?_
 simp only [pz]
 go_wp2_with fail
 refine (wbytes_any w kMsg MsgA.zero (kMsg_in w) kMsg_ok kMsg_few.two).mono ?_
 rintro e w1 ⟨a, c, rfl, ho, hx1⟩
 rw [kMsg_err]
 have hB : bytesOf kMsg = frame (bodyEnc kMsg) := by unfold bytesOf; rw [if_pos kMsg_err]
 have hl := bodyEnc_le kMsg_ok kMsg_few
 have hl1 : 1 ≤ (bodyEnc kMsg).length := by
  have := (encI_length kMsg.kind kMsg_ok.kind).2
  unfold bodyEnc encs
  rw [List.flatMap_cons, List.length_append, List.length_append]
  omega
 have hfl := frame_length (bodyEnc kMsg)
 have hcut := one_cut (bodyEnc kMsg) (by omega) ((bodyEnc kMsg).length + 7) (by omega)
 obtain ⟨k, hk⟩ : ∃ k, k = (bodyEnc kMsg).length + 7 := ⟨_, rfl⟩
 rw [← hk] at hcut
 obtain ⟨B, hBe⟩ : ∃ B, B = frame (bodyEnc kMsg) := ⟨_, rfl⟩
 rw [hB, ← hBe] at ho ⊢
 rw [← hBe] at hfl hcut
 have hBk : B.length = k + 1 := by omega
 have hk8 : 8 ≤ k := by omega
 have hkl : k ≤ 40000 := by omega
 clear hB hl hl1 hfl hk hBe
 have hr := ho.rd
 have hnc := ho.nc
 have htl : (B.take k).length = k := by rw [List.length_take]; omega
 have hrt : Rd w1 a (bs (B.take k)) := by have q := hr.take k; rw [bs_take] at q; exact q
 have HP := Lib.hid (fun (w2 : World) (hx : Ext no w1 w2) => by
  have q := wparse_bad w2 a c (B.take k) 8 (hrt.ext hx (fun _ _ h => h)) (by omega) (by omega) hcut (by decide)
  rw [htl] at q
  exact q)
 have hcd : ∀ w, (Instr.sliceAt 37 (.slice a B.length c) none (some (.int .i64 (k : Int))) none).run Tryz.prog w = .ok (.slice a k c) w := fun w => run_cut_h TBytes w _ _ c .i64 k (by omega)
 have hg8 : decide ((8 : Int) < (B.length : Int)) = true := decT (by omega)
 have hg8' : decide (8 < B.length) = true := decT (by omega)
 have hm1 : (B.length : Int) - 1 = (k : Int) := by omega
 have hmx : max (k : Int) 0 = (k : Int) := by omega
 have hmd : decide ((k : Int) ≤ 0) = false := decF (by omega)
 have hmd2 : decide ((k : Int) < 0) = false := decF (by omega)
 have hB1 : 1 ≤ B.length := by omega
 have Hx := Lib.hid hBk
 clear hBk ho hr hnc hrt htl hcut
 go_wp2_with fail
 refine (HP.out w1 (Ext.refl _ _)).mono ?_
 rintro e w2 ⟨rfl, hx2⟩
 clear HP
 rename_i hK
 dsimp only
 refine hK _ _ ?_
 clear hK
 refine wp_move (.tuple #[MsgR.zero.val MsgA.zero, .int .i64 (8 : Nat)]) rfl rfl (by rfl) ?_
 simp only [pz]
 refine wp_extract (v := MsgR.zero.val MsgA.zero) rfl rfl (by rfl) (by rfl) ?_
 simp only [pz]
 refine wp_extract (v := .int .i64 (8 : Nat)) rfl rfl (by rfl) (by rfl) ?_
 simp only [pz]
 refine wp_alloc_msg rfl rfl (fun hA => ?_)
 simp only [pz]
 refine wp_store_msg (m := MsgR.zero) (h := MsgA.zero) rfl rfl (by rfl) (by rfl) hA rfl (fun hS hxS => ?_)
 simp only [pz]
 refine wp_assign (.int .i64 (8 : Nat)) rfl rfl (by rfl) ?_
 simp only [pz]
 have hsz := hx2.size
 have hxw := ((hx1.comp hx2).comp (Ext.alloc no w2 _)).trans hxS (fun q hq e => by have e : q = w2.heap.size := e; have := hx1.size; omega)
 generalize (w2.alloc (.cells (MsgR.zero.cells MsgA.zero).toArray 36)).setCells w2.heap.size 0 (MsgR.zero.cells MsgA.zero) = w3 at hxw ⊢
 clear hS hxS hA
 go_wp2_with fail
 go_ret
 exact ⟨rfl, hxw⟩
end Go.Proofs.YtddobhihjljcgaaGreat
