/- The walk of WireCmds. -/
import Derived.Test.YtddobhihjljcgaaWxE
import Derived.Test.YtddobhihjljcgaaWxF
import Derived.Test.YtddobhihjljcgaaWxG
import Derived.Test.YtddobhihjljcgaaWiF
import Derived.Test.YtddobhihjljcgaaWiI
import Derived.Test.YtddobhihjljcgaaWiO
import Derived.Deep.CutBlock
namespace Go.Proofs.Ytddobhihjljcgaa
open Go.RowKit Go.Esc
set_option linter.unusedVariables false
set_option linter.unusedSimpArgs false
theorem emptied4 (w : World) (te : TypeId) : Own (w.alloc (.cells #[] te)) w.heap.size (some ⟨w.heap.size, 0, none⟩) 1 0 0 [] :=
  Own.fresh w _ _ _ _ _ _ _ _ (Nat.le_refl _) (by simp) (Nat.le_refl _) (Nat.zero_le _) (by simp) (by simp) (.inl (Nat.le_refl _))
theorem copied4 {w w' : World} {te : TypeId} {a' : Option Addr} {c' m : Nat} {l : List UInt8} (h : App (w.alloc (.cells #[] te)) w' w.heap.size 1 (some ⟨w.heap.size, 0, none⟩) 0 0 [] a' c' m (bs l)) :
    Own w' w.heap.size a' 1 m c' (bs l) ∧ Ext no w w' := by
  refine ⟨by have := h.own; rwa [Nat.zero_add, List.nil_append] at this, ?_⟩
  exact Ext.ofBelow (((Below.refl _ _).alloc (Nat.le_refl _) _).trans ((emptied4 w te).below h.ext (by simp))) (Nat.le_refl _)
theorem bs_set3 (l : List UInt8) (i : Nat) (z : UInt8) : (bs l).set i (B8 z) = bs (l.set i z) := by simp [bs, List.map_set]
theorem tdiv2_ok3 (n : Int) (h : I64ok n) : I64ok (n.tdiv 2) := by
  unfold I64ok at *
  have h1 := @Int.tdiv_eq_ediv n 2
  have h2 : Int.sign 2 = 1 := rfl
  rw [h2] at h1
  split at h1 <;> omega
theorem nice_few {c : CmdR} (h : c.nice) : c.few := ⟨by have := h.wl; omega, h.wk, by have := h.ol; omega, fun x hx => (h.of x hx).2.1⟩
theorem parseCmd_short (l : List UInt8) : (parseCmd l).wants.length ≤ 1000000 ∧ (parseCmd l).ops.length ≤ 1000000 ∧ ∀ o ∈ (parseCmd l).ops, o.dots.length ≤ 1099511627776 := by
  by_cases h : cmdErr l = 0
  · have he : (wCmd ⟨l, 0⟩).2.e = 0 := by
      unfold cmdErr at h
      split at h
      · rename_i h1; exact absurd h h1
      · rename_i h1
        have h1 := Decidable.not_not.1 h1
        unfold rEnd at h1
        split at h1
        · omega
        · exact h1
    have hp : parseCmd l = (xCmd ⟨l, 0⟩).1 := by unfold parseCmd; rw [if_pos h, xCmd_val _ he]
    rw [hp]
    refine ⟨?_, ?_, ?_⟩
    · have h1 := xRow_len (f := pWant) (pSize 20 (rInt (rInt (rInt (rInt (rInt (⟨l, 0⟩ : RS)).2).2).2).2).2).1 (pSize 20 (rInt (rInt (rInt (rInt (rInt (⟨l, 0⟩ : RS)).2).2).2).2).2).2
      have h2 := pSize_le (m := 20) (by omega) (rInt (rInt (rInt (rInt (rInt (⟨l, 0⟩ : RS)).2).2).2).2).2
      unfold xCmd
      simp only
      omega
    · rw [xCmd_ops]; exact (xOps_fine _).1
    · rw [xCmd_ops]; exact fun o ho => ((xOps_fine _).2 o ho).1
  · have hp : parseCmd l = CmdR.zero := by unfold parseCmd; rw [if_neg h]
    rw [hp]
    exact ⟨Nat.zero_le _, Nat.zero_le _, fun o ho => by cases ho⟩
def cmdM (C : CmdR) : MsgR := { MsgR.zero with cmd := C }
def cmdMA (h : CmdA) : MsgA := { MsgA.zero with c := h }
theorem cmdM_ok {C : CmdR} (h : C.ok) : (cmdM C).ok := ⟨kMsg_ok.ver, kMsg_ok.ver, kMsg_ok.ver, kMsg_ok.ver, kMsg_ok.ver, kMsg_ok.ver, kMsg_ok.ver, h, zeroReply_ok, fun x hx => by cases hx⟩
theorem cmdM_few {C : CmdR} (h : C.few) : (cmdM C).few := ⟨Nat.zero_le _, h, zeroReply_few, Nat.zero_le _, fun x hx => by cases hx⟩
theorem cmdM_in {C : CmdR} {w : World} {h : CmdA} (k : C.In w h) : (cmdM C).In w (cmdMA h) := ⟨Rd.nil _ _, k, ReplyR.In.zero w, OpsIn.nil _ _, Nat.le_refl _, Nat.zero_le _, Nat.le_refl _, Nat.zero_le _⟩

set_option maxRecDepth 100000 in
set_option maxHeartbeats 40000000 in
theorem wcmds_walk (w : World) (C0 : CmdR) (h0 : CmdA) (ta : Option Addr) (at' : List Int) (tc : Nat) (ya : Option Addr) (ys : List UInt8) (yc : Nat) (cut : Int)
    (hin0 : C0.In w h0) (hok0 : C0.ok) (htd : Rd w ta (is at')) (htok : ∀ n ∈ at', I64ok n) (htl : at'.length ≤ tc) (htc : tc ≤ maxLen) (hyd : Rd w ya (bs ys)) (hyl : ys.length ≤ yc) (hyc : yc ≤ maxLen) (hcut : I64ok cut) :
    Calls Try.prog 5 #[C0.val h0, .slice ta at'.length tc, .slice ya ys.length yc, .int .i64 cut] w fun e w' => e = .returned (.bool true) ∧ Ext no w w' := by
  have Htok := Lib.hid htok
  have Hcut := Lib.hid hcut
  have Hc2 := Lib.hid (tdiv2_ok3 cut hcut)
  clear htok hcut
  unfold maxLen at htc hyc
  go_enter Try.func5, Try.ntmps5
  go_upto_region 0 with fail
  refine wp_region_lit ?_
  refine wp_box_cmd rfl rfl (by rfl) (fun hC => ?_)
  simp only [Act.put, List.setIfInBounds_toArray, List.set_cons_zero, List.set_cons_succ]
  have hxa := Ext.alloc no w (.cells (C0.cells h0).toArray 27)
  obtain ⟨g, hg⟩ : ∃ g, g = w.heap.size := ⟨_, rfl⟩
  rw [← hg] at hC ⊢
  have hgw : w.heap.size ≤ g := by omega
  clear hg
  generalize w.alloc (.cells (C0.cells h0).toArray 27) = w1 at *
  go_wp2_with fail
  refine (wiknown_any w1).mono ?_
  rintro e w2 ⟨rfl, hy⟩
  have hC := hC.ext (cmd_ne _ _) hy (fun h => h)
  have hx := hxa.comp hy
  clear hxa hy
  go_upto_region 3 with fail
  refine wp_region_lit ?_
  refine wp_load_cmd (m := C0) (h := h0) rfl rfl (by rfl) hC.range ?_
  simp only [Act.put, List.setIfInBounds_toArray, List.set_cons_zero, List.set_cons_succ]
  go_wp2_with fail
  refine (wifewcmd_any w2 C0 h0 (hin0.no hx) hok0).mono ?_
  rintro e w3 ⟨bf, rfl, hbf, hy⟩
  have hC := hC.ext (cmd_ne _ _) hy (fun h => h)
  replace hx := hx.comp hy
  clear hy
  cases bf with
  | false =>
    go_wp2_with fail
    go_ret
    exact ⟨rfl, hx⟩
  | true =>
    have hfew0 := hbf rfl
    clear hbf
    have hinW := hin0.no hx
    go_wp2_with fail
    go_loopw [9] (fun s9 wr => ∃ (j : Nat), s9 = .int .i64 j ∧ j ≤ 2 ∧ Ext no w wr ∧ (j ≤ 1 → ∃ (C : CmdR) (h : CmdA), Blk wr g (C.cells h) ∧ C.In wr h ∧ C.ok ∧ C.few ∧ (j = 1 → C.nice) ∧ (j = 0 → C.In w h))) (fun s9 _ => 2 - (intOf s9).toNat)
    case atStart => exact ⟨0, rfl, by omega, hx, fun _ => ⟨C0, h0, hC, hinW, hok0, hfew0, fun e => by omega, fun _ => hin0⟩⟩
    case round =>
      clear hC hx hinW hin0 hok0 hfew0
      obtain ⟨j, rfl, hj, hx, hrel⟩ := hrel
      by_cases hj2 : j < 2
      rotate_left
      · have d1 : decide ((j : Int) < 2) = false := decF (by omega)
        clear hrel
        go_wp2_with fail
        go_ret
        exact ⟨rfl, hx⟩
      have d1 : decide ((j : Int) < 2) = true := decT (by omega)
      obtain ⟨C, h, hC, hin, hok, hfew, hnice, hin0⟩ := hrel (by omega)
      clear hrel
      have Hnice := Lib.hid hnice
      have Hin0 := Lib.hid hin0
      clear hnice hin0
      have hgl := hC.lt (cmd_ne _ _)
      have hBl := cmdEnc_le hok hfew
      have HB1 := Lib.hid (show 1 ≤ (cmdEnc C).length by unfold cmdEnc encs; simp only [List.flatMap_cons, List.length_append]; have := (encI_length C.kind hok.kind).2; omega)
      have HPC := Lib.hid (fun e : j = 1 => parseCmd_enc C (Hnice.out e))
      go_upto_region 8 with fail

      go_cut [10, 11] (fun s10 s11 wx => ∃ (aA : Option Addr) (cA : Nat) (aB : Option Addr) (cB : Nat), s10 = .slice aA (cmdEnc C).length cA ∧ s11 = .slice aB (cmdEnc C).length cB ∧ Rd wx aA (bs (cmdEnc C)) ∧ Own wx wr.heap.size aB 1 (cmdEnc C).length cB (bs (cmdEnc C)) ∧ Ext no wr wx)
      case first =>
        refine wp_region_F [0, 2] (looks [(0, fun z => Ext no wr z), (2, fun z => Ext no wr z)]) (by kernel_rfl) ?_
        have hXd := Ext.drew no wr
        generalize wr.drew = wd at *
        have hT0 : ∀ k, looks [(0, fun z => Ext no wr z), (2, fun z => Ext no wr z)] k (wd) := looks_all ⟨hXd, hXd, trivial⟩
        refine wpF_look 0 (v := C.val h) rfl rfl (by kernel_rfl) (by kernel_rfl) (by kernel_rfl) (by kernel_rfl) (fun _ _ _ h => h) hT0 (by rfl) (fun w hS => by have hS : Ext no wr w := hS; exact run_load_cmd rfl (by rfl) (hC.ext (cmd_ne _ _) hS (fun h => h))) ?_
        simp only [Act.put, List.setIfInBounds_toArray, List.set_cons_zero, List.set_cons_succ]
        refine wpF_look 2 (v := C.val h) rfl rfl (by kernel_rfl) (by kernel_rfl) (by kernel_rfl) (by kernel_rfl) (fun _ _ _ h => h) hT0 (by rfl) (fun w hS => by have hS : Ext no wr w := hS; exact run_load_cmd rfl (by rfl) (hC.ext (cmd_ne _ _) hS (fun h => h))) ?_
        simp only [Act.put, List.setIfInBounds_toArray, List.set_cons_zero, List.set_cons_succ]
        refine wpF_exec 1 rfl (by kernel_rfl) (by rfl) ?_
        intro K hK
        go_simp
        refine (wirecmd_any wd C h (hin.no hXd) hok hfew).mono ?_
        rintro e x1 ⟨aA, cA, rfl, hrA, hy⟩
        have hX1 : Ext no wr x1 := (hXd).comp hy
        clear hy
        have hT1 : ∀ k, looks [(0, fun z => Ext no wr z), (2, fun z => Ext no wr z)] k (x1) := looks_all ⟨hX1, hX1, trivial⟩
        refine hK _ _ (looks [(0, fun z => Ext no wr z), (2, fun z => Ext no wr z)]) ⟨.inr (.inl (by kernel_rfl)), .inr (.inr (fun x h => h)), trivial⟩ hT1 ?_
        clear hK K
        try simp only [Act.put, List.setIfInBounds_toArray, List.set_cons_zero, List.set_cons_succ]
        refine wpF_exec 3 rfl (by kernel_rfl) (by rfl) ?_
        intro K hK
        go_simp
        refine (refcmd_any x1 C h (hin.no hX1) hok hfew).mono ?_
        rintro e x2 ⟨aB, cB, rfl, hoB, hy⟩
        have hoB := hoB.mono (show wr.heap.size ≤ x1.heap.size from (hX1).size)
        have hX2 : Ext no wr x2 := (hX1).comp hy
        have hrA := hrA.ext hy (fun _ _ h => h)
        clear hy
        have hT2 : ∀ k, looks [(0, fun z => Ext no wr z), (2, fun z => Ext no wr z)] k (x2) := looks_all ⟨hX2, hX2, trivial⟩
        refine hK _ _ (looks [(0, fun z => Ext no wr z), (2, fun z => Ext no wr z)]) ⟨.inr (.inl (by kernel_rfl)), .inr (.inl (by kernel_rfl)), trivial⟩ hT2 ?_
        clear hK K
        try simp only [Act.put, List.setIfInBounds_toArray, List.set_cons_zero, List.set_cons_succ]
        refine wpF_take 4 (v := ?_) rfl (by kernel_rfl) (by kernel_rfl) (by kernel_rfl) (fun _ _ _ h => h) hT2 (by rfl) ?_ ?_
        rotate_left
        · (intro wq; go_simp; try with_reducible rfl)
        simp only [Act.put, List.setIfInBounds_toArray, List.set_cons_zero, List.set_cons_succ]
        refine wpF_take 5 (v := ?_) rfl (by kernel_rfl) (by kernel_rfl) (by kernel_rfl) (fun _ _ _ h => h) hT2 (by rfl) ?_ ?_
        rotate_left
        · (intro wq; go_simp; try with_reducible rfl)
        simp only [Act.put, List.setIfInBounds_toArray, List.set_cons_zero, List.set_cons_succ]
        refine wpF_done (by kernel_rfl) ?_ _
        obtain ⟨wa, h0⟩ : ∃ v, v = x2 := ⟨_, rfl⟩
        subst h0
        have hXA := hX2
        go_wp2_with fail
        go_meet
        exact ⟨aA, cA, aB, cB, rfl, rfl, hrA, hoB, hXA⟩
      case rest =>
        obtain ⟨aA, cA, aB, cB, rfl, rfl, hrA, hoB, hy⟩ := hcut
        obtain ⟨w4, h0⟩ : ∃ v, v = wc := ⟨_, rfl⟩
        subst h0
        have hC := hC.ext (cmd_ne _ _) hy (fun h => h)
        have hin := hin.no hy
        have hsr := hx.size
        replace hx := hx.comp hy
        have hBlt := hoB.base
        clear hy
        obtain ⟨B, hB⟩ : ∃ B, B = cmdEnc C := ⟨_, rfl⟩
        rw [← hB] at hBl HB1 HPC hrA hoB ⊢
        have HBC := Lib.hid hB
        clear hB
        have hBc := hoB.nc
        have hBm := hoB.cm
        have HMl := Lib.hid (parseCmd_short B)
        go_wp2_with fail
        refine (wparseCmd_any w4 aB cB B hoB.rd (by omega)).mono ?_
        rintro e w5 ⟨k1, rfl, hKp, hy⟩
        have hX1 := hKp.now
        have hC := hC.ext (cmd_ne _ _) hy (fun h => h)
        have hin := hin.no hy
        have hrA := hrA.ext hy (fun _ _ h => h)
        have hoB := hoB.ext hy (fun _ _ h => h)
        replace hx := hx.comp hy
        clear hKp hy
        obtain ⟨X, hX⟩ : ∃ X, X = parseCmd B := ⟨_, rfl⟩
        obtain ⟨E, hE⟩ : ∃ E, E = cmdErr B := ⟨_, rfl⟩
        rw [← hX] at hX1 HMl HPC
        rw [← hE] at HPC
        rw [← hX, ← hE]
        have HX := Lib.hid hX
        have HE := Lib.hid hE
        clear hX hE
        rename_i hK
        dsimp only
        refine hK _ _ ?_
        clear hK
        have hgl := hC.lt (cmd_ne _ _)
        refine wp_move (.tuple #[X.val k1, .int .i64 E]) rfl rfl (by rfl) ?_
        simp only [Act.put, List.setIfInBounds_toArray, List.set_cons_zero, List.set_cons_succ]
        refine wp_extract (vs := #[X.val k1, .int .i64 E]) (v := X.val k1) rfl rfl (by rfl) rfl ?_
        simp only [Act.put, List.setIfInBounds_toArray, List.set_cons_zero, List.set_cons_succ]
        refine wp_extract (vs := #[X.val k1, .int .i64 E]) (v := .int .i64 E) rfl rfl (by rfl) rfl ?_
        simp only [Act.put, List.setIfInBounds_toArray, List.set_cons_zero, List.set_cons_succ]
        refine wp_alloc_cmd rfl rfl (fun hV => ?_)
        simp only [Act.put, List.setIfInBounds_toArray, List.set_cons_zero, List.set_cons_succ]
        have hxc := Ext.alloc no w5 (.cells (CmdR.zero.cells CmdA.zero).toArray 27)
        obtain ⟨p1, hp⟩ : ∃ p, p = w5.heap.size := ⟨_, rfl⟩
        rw [← hp] at hV ⊢
        refine wp_store_cmd (m := X) (h := k1) rfl rfl (by rfl) (by rfl) hV rfl (fun hp1 hxs => ?_)
        simp only [Act.put, List.setIfInBounds_toArray, List.set_cons_zero, List.set_cons_succ]
        have hy : Ext no w5 ((w5.alloc (.cells (CmdR.zero.cells CmdA.zero).toArray 27)).setCells p1 0 (X.cells k1)) := hxc.trans hxs (fun k hk e => by have e : k = p1 := e; omega)
        have hC := hC.ext (cmd_ne _ _) hy (fun h => h)
        have hin := hin.no hy
        have hrA := hrA.ext hy (fun _ _ h => h)
        have hoB := hoB.ext hy (fun _ _ h => h)
        have hX1 := hX1.no hy
        replace hx := hx.comp hy
        have hp1g : g < p1 := by have := hgl; omega
        clear hp hV hxc hxs hy
        generalize (w5.alloc (.cells (CmdR.zero.cells CmdA.zero).toArray 27)).setCells p1 0 (X.cells k1) = v5 at *
        refine wp_assign (.int .i64 E) rfl rfl (by rfl) ?_
        simp only [Act.put, List.setIfInBounds_toArray, List.set_cons_zero, List.set_cons_succ]
        go_wp2_with fail
        refine (xparseCmd_any v5 aB cB B hoB.rd hBc hBm).mono ?_
        rintro e w6 ⟨k2, rfl, hKp, hy⟩
        have hY1 := hKp.now
        rw [← HX.out] at hY1 ⊢
        rw [← HE.out]
        have hC := hC.ext (cmd_ne _ _) hy (fun h => h)
        have hin := hin.no hy
        have hrA := hrA.ext hy (fun _ _ h => h)
        have hoB := hoB.ext hy (fun _ _ h => h)
        have hX1 := hX1.no hy
        have hp1 := hp1.ext (cmd_ne _ _) hy (fun h => h)
        replace hx := hx.comp hy
        clear hKp hy
        rename_i hK
        dsimp only
        refine hK _ _ ?_
        clear hK
        have hgl := hC.lt (cmd_ne _ _)
        refine wp_move (.tuple #[X.val k2, .int .i64 E]) rfl rfl (by rfl) ?_
        simp only [Act.put, List.setIfInBounds_toArray, List.set_cons_zero, List.set_cons_succ]
        refine wp_extract (vs := #[X.val k2, .int .i64 E]) (v := X.val k2) rfl rfl (by rfl) rfl ?_
        simp only [Act.put, List.setIfInBounds_toArray, List.set_cons_zero, List.set_cons_succ]
        refine wp_extract (vs := #[X.val k2, .int .i64 E]) (v := .int .i64 E) rfl rfl (by rfl) rfl ?_
        simp only [Act.put, List.setIfInBounds_toArray, List.set_cons_zero, List.set_cons_succ]
        refine wp_alloc_cmd rfl rfl (fun hV => ?_)
        simp only [Act.put, List.setIfInBounds_toArray, List.set_cons_zero, List.set_cons_succ]
        have hxc := Ext.alloc no w6 (.cells (CmdR.zero.cells CmdA.zero).toArray 27)
        obtain ⟨p2, hp⟩ : ∃ p, p = w6.heap.size := ⟨_, rfl⟩
        rw [← hp] at hV ⊢
        refine wp_store_cmd (m := X) (h := k2) rfl rfl (by rfl) (by rfl) hV rfl (fun hp2 hxs => ?_)
        simp only [Act.put, List.setIfInBounds_toArray, List.set_cons_zero, List.set_cons_succ]
        have hy : Ext no w6 ((w6.alloc (.cells (CmdR.zero.cells CmdA.zero).toArray 27)).setCells p2 0 (X.cells k2)) := hxc.trans hxs (fun k hk e => by have e : k = p2 := e; omega)
        have hC := hC.ext (cmd_ne _ _) hy (fun h => h)
        have hin := hin.no hy
        have hrA := hrA.ext hy (fun _ _ h => h)
        have hoB := hoB.ext hy (fun _ _ h => h)
        have hX1 := hX1.no hy
        have hp1 := hp1.ext (cmd_ne _ _) hy (fun h => h)
        have hY1 := hY1.no hy
        replace hx := hx.comp hy
        have hp2g : g < p2 := by have := hgl; omega
        clear hp hV hxc hxs hy
        generalize (w6.alloc (.cells (CmdR.zero.cells CmdA.zero).toArray 27)).setCells p2 0 (X.cells k2) = v6 at *
        refine wp_assign (.int .i64 E) rfl rfl (by rfl) ?_
        simp only [Act.put, List.setIfInBounds_toArray, List.set_cons_zero, List.set_cons_succ]
        
        go_upto_region 11 with fail
        go_cut [71] (fun s71 wx => s71 = .bool false ∧ Ext no v6 wx)
        case first =>
          refine wp_region_lit ?_
          refine wp_val (by rfl) (.slice aA B.length cA) (by go_simp) ?_
          simp only [Act.put, List.setIfInBounds_toArray, List.set_cons_zero, List.set_cons_succ]
          refine wp_val (by rfl) (.string (str B)) (run_str rfl (by rfl) rfl hrA) ?_
          simp only [Act.put, List.setIfInBounds_toArray, List.set_cons_zero, List.set_cons_succ]
          refine wp_val (by rfl) (.slice aB B.length cB) (by go_simp) ?_
          simp only [Act.put, List.setIfInBounds_toArray, List.set_cons_zero, List.set_cons_succ]
          refine wp_val (by rfl) (.string (str B)) (run_str rfl (by rfl) rfl hoB.rd) ?_
          simp only [Act.put, List.setIfInBounds_toArray, List.set_cons_zero, List.set_cons_succ]
          have hbs := beqStrT (rfl : B = B)
          refine wp_val (by rfl) (.bool false) (by go_simp) ?_
          simp only [Act.put, List.setIfInBounds_toArray, List.set_cons_zero, List.set_cons_succ]
          refine wp_val (by rfl) (.bool false) (by go_simp) ?_
          simp only [Act.put, List.setIfInBounds_toArray, List.set_cons_zero, List.set_cons_succ]
          refine wp_val (by rfl) (.int .i64 E) (by go_simp) ?_
          simp only [Act.put, List.setIfInBounds_toArray, List.set_cons_zero, List.set_cons_succ]
          refine wp_val (by rfl) (.int .i64 E) (by go_simp) ?_
          simp only [Act.put, List.setIfInBounds_toArray, List.set_cons_zero, List.set_cons_succ]
          refine wp_val (by rfl) (.bool false) (by go_simp) ?_
          simp only [Act.put, List.setIfInBounds_toArray, List.set_cons_zero, List.set_cons_succ]
          refine wp_val (by rfl) (.bool false) (by go_simp) ?_
          simp only [Act.put, List.setIfInBounds_toArray, List.set_cons_zero, List.set_cons_succ]
          refine wp_val (by rfl) (.bool false) (by go_simp) ?_
          simp only [Act.put, List.setIfInBounds_toArray, List.set_cons_zero, List.set_cons_succ]
          refine wp_val (by rfl) (X.val k1) (run_load_cmd rfl (by rfl) hp1) ?_
          simp only [Act.put, List.setIfInBounds_toArray, List.set_cons_zero, List.set_cons_succ]
          refine wp_val (by rfl) (X.val k2) (run_load_cmd rfl (by rfl) hp2) ?_
          simp only [Act.put, List.setIfInBounds_toArray, List.set_cons_zero, List.set_cons_succ]
          go_wp2_with fail
          refine (samecmd_eq v6 X k1 k2 hX1 hY1 HMl.out.1 HMl.out.2.1 HMl.out.2.2).mono ?_
          rintro e v7 ⟨rfl, hy⟩
          have hC := hC.ext (cmd_ne _ _) hy (fun h => h)
          have hin := hin.no hy
          have hX1 := hX1.no hy
          have hp1 := hp1.ext (cmd_ne _ _) hy (fun h => h)
          have hyy := hy
          clear hy hY1 hp2 hrA
          rename_i hK
          dsimp only
          refine hK _ _ ?_
          clear hK
          refine wp_val (by rfl) (.bool false) (by go_simp) ?_
          simp only [Act.put, List.setIfInBounds_toArray, List.set_cons_zero, List.set_cons_succ]
          refine wp_val (by rfl) (.bool false) (by go_simp) ?_
          simp only [Act.put, List.setIfInBounds_toArray, List.set_cons_zero, List.set_cons_succ]
          refine wp_val (by rfl) (.bool false) (by go_simp) ?_
          simp only [Act.put, List.setIfInBounds_toArray, List.set_cons_zero, List.set_cons_succ]
          rcases (show j = 0 ∨ j = 1 by omega) with rfl | rfl
          · refine wp_val (by rfl) (.int .i64 ((0 : Nat) : Int)) (by go_simp) ?_
            simp only [Act.put, List.setIfInBounds_toArray, List.set_cons_zero, List.set_cons_succ]
            refine wp_val (by rfl) (.bool false) (by go_simp) ?_
            simp only [Act.put, List.setIfInBounds_toArray, List.set_cons_zero, List.set_cons_succ]
            refine wp_val (by rfl) (.bool false) (by go_simp) ?_
            simp only [Act.put, List.setIfInBounds_toArray, List.set_cons_zero, List.set_cons_succ]
            refine wpList_skip (by rfl) ?_
            simp only [Act.put, List.setIfInBounds_toArray, List.set_cons_zero, List.set_cons_succ]
            refine wpList_skip (by rfl) ?_
            simp only [Act.put, List.setIfInBounds_toArray, List.set_cons_zero, List.set_cons_succ]
            refine wpList_skip (by rfl) ?_
            simp only [Act.put, List.setIfInBounds_toArray, List.set_cons_zero, List.set_cons_succ]
            refine wpList_skip (by rfl) ?_
            simp only [Act.put, List.setIfInBounds_toArray, List.set_cons_zero, List.set_cons_succ]
            refine wp_val (by rfl) (.bool false) (by go_simp) ?_
            simp only [Act.put, List.setIfInBounds_toArray, List.set_cons_zero, List.set_cons_succ]
            refine wp_val (by rfl) (.bool false) (by go_simp) ?_
            simp only [Act.put, List.setIfInBounds_toArray, List.set_cons_zero, List.set_cons_succ]
            go_wp2_with fail
            go_meet
            exact ⟨rfl, hyy⟩
          · have HXC := Lib.hid (show X = C from (HPC.out rfl).1)
            refine wp_val (by rfl) (.int .i64 ((1 : Nat) : Int)) (by go_simp) ?_
            simp only [Act.put, List.setIfInBounds_toArray, List.set_cons_zero, List.set_cons_succ]
            refine wp_val (by rfl) (.bool true) (by go_simp) ?_
            simp only [Act.put, List.setIfInBounds_toArray, List.set_cons_zero, List.set_cons_succ]
            refine wp_val (by rfl) (.bool true) (by go_simp) ?_
            simp only [Act.put, List.setIfInBounds_toArray, List.set_cons_zero, List.set_cons_succ]
            refine wp_val (by rfl) (X.val k1) (run_load_cmd rfl (by rfl) hp1) ?_
            simp only [Act.put, List.setIfInBounds_toArray, List.set_cons_zero, List.set_cons_succ]
            refine wp_val (by rfl) (C.val h) (run_load_cmd rfl (by rfl) hC) ?_
            simp only [Act.put, List.setIfInBounds_toArray, List.set_cons_zero, List.set_cons_succ]
            go_wp2_with fail
            rw [← HXC.out] at hin ⊢
            refine (samecmd_eq v7 X k1 h hX1 hin HMl.out.1 HMl.out.2.1 HMl.out.2.2).mono ?_
            rintro e v8 ⟨rfl, hy⟩
            rename_i hK
            dsimp only
            refine hK _ _ ?_
            clear hK
            refine wp_val (by rfl) (.bool false) (by go_simp) ?_
            simp only [Act.put, List.setIfInBounds_toArray, List.set_cons_zero, List.set_cons_succ]
            refine wp_val (by rfl) (.bool false) (by go_simp) ?_
            simp only [Act.put, List.setIfInBounds_toArray, List.set_cons_zero, List.set_cons_succ]
            refine wp_val (by rfl) (.bool false) (by go_simp) ?_
            simp only [Act.put, List.setIfInBounds_toArray, List.set_cons_zero, List.set_cons_succ]
            go_wp2_with fail
            go_meet
            exact ⟨rfl, hyy.comp hy⟩
        case rest =>
          obtain ⟨rfl, hy⟩ := hcut
          obtain ⟨v7, h0⟩ : ∃ v, v = wc := ⟨_, rfl⟩
          subst h0
          have hC := hC.ext (cmd_ne _ _) hy (fun h => h)
          have hin := hin.no hy
          have hoB := hoB.ext hy (fun _ _ h => h)
          replace hx := hx.comp hy
          clear hy hY1 hp2 hrA hX1 hp1 HPC HMl HX HE
          go_wp2_with (at_builtin; refine wpList_append TBytes rfl rfl rfl (emptied4 v7 5) rfl (hoB.rd.alloc _) (by simp) (bs_one _) (by unfold maxLen; omega) (by omega) (by simp) ?_)
          intro a4 c4 v8 happ
          obtain ⟨hoz, hy⟩ := copied4 happ
          clear happ
          have hx7 := hx
          have hin7 := hin
          have hC7 := hC
          have hgl7 := hC.lt (cmd_ne _ _)
          clear hx hin hC hoB
          go_upto_block 2 with fail
          go_cut [17] (fun s17 wx => ∃ M : List UInt8, M.length = B.length ∧ Own wx v7.heap.size a4 1 B.length c4 (bs M) ∧ Ext no v7 wx)
          case first =>
            go_wp2_with fail
            go_loopw [17] (fun s17 wl => ∃ (k : Nat) (M : List UInt8), k ≤ at'.length ∧ s17 = .int .i64 k ∧ M.length = B.length ∧ Own wl v7.heap.size a4 1 B.length c4 (bs M) ∧ Ext no v7 wl) (fun s17 _ => at'.length - (intOf s17).toNat)
            case atStart => exact ⟨0, B, Nat.zero_le _, rfl, rfl, hoz, hy⟩
            case round =>
              clear hoz hy
              obtain ⟨k, M, hk, rfl, hM, hown, hy⟩ := hrel
              have hx := hx7.comp hy
              have HM := Lib.hid hM
              clear hM
              by_cases hall : k < at'.length ∧ k < ys.length ∧ k < 3
              · obtain ⟨hk1, hk2, hk3⟩ := hall
                have d1 : decide ((k : Int) < at'.length) = true := by rw [decide_eq_true_eq]; omega
                have d2 : decide ((k : Int) < ys.length) = true := by rw [decide_eq_true_eq]; omega
                have d3 : decide ((k : Int) < 3) = true := by rw [decide_eq_true_eq]; omega
                obtain ⟨tad, rfl, _⟩ := htd.ne (by simp; omega)
                obtain ⟨yad, rfl, _⟩ := hyd.ne (by simp; omega)
                have hB1 := HB1.out
                obtain ⟨bad, rfl, hblt⟩ := hown.rd.ne (by rw [bs_length, HM.out]; omega)
                have htc1 := hx.keeps (htd.cell k (by simpa using hk1)) (fun h => h)
                have hyc1 := hx.keeps (hyd.cell k (by simpa using hk2)) (fun h => h)
                rw [show (is at')[k]'(by simpa using hk1) = .int .i64 at'[k] from by simp [is, I64]] at htc1
                rw [show (bs ys)[k]'(by simpa using hk2) = .int .u8 ys[k].toNat from by simp [bs, B8]] at hyc1
                obtain ⟨i, hi⟩ : ∃ i : Nat, at'[k] % (B.length : Int) = i := ⟨(at'[k] % (B.length : Int)).toNat, by have := Int.emod_nonneg at'[k] (show (B.length : Int) ≠ 0 by omega); omega⟩
                have hil : i < B.length := by have := Int.emod_lt_of_pos at'[k] (show (0 : Int) < B.length by omega); omega
                have hiM : i < M.length := by rw [HM.out]; exact hil
                have hbc := hown.rd.cell i (by simpa using hiM)
                rw [show (bs M)[i]'(by simpa using hiM) = .int .u8 M[i].toNat from by simp [bs, B8]] at hbc
                have hbf : wr.frozen? (bad.add i) = false := by
                  obtain ⟨_, e, _, f⟩ := hown.can i (by have := hown.nc; omega)
                  cases e; exact f
                have hb1 := M[i].toNat_lt
                have hb2 := ys[k].toNat_lt
                have hok' := Htok.out at'[k] (by simp)
                have Hi := Lib.hid hi
                have Hok := Lib.hid hok'
                clear hi hok'
                generalize at'[k] = q at *
                generalize ys[k] = y at *
                generalize M[i] = x at *
                obtain ⟨z, hz⟩ : ∃ z : UInt8, ((x.toNat : Int) + y.toNat) % 256 = z.toNat := ⟨x + y, by rw [UInt8.toNat_add]; simp⟩
                have Hz := Lib.hid hz
                clear hz
                go_upto_region 17 with fail
                refine wp_region_E [4, 9, 13] (fun x => x = wr.drew) (by kernel_rfl) ?_
                refine wpE_take 0 (v := ?_) rfl (by kernel_rfl) (by kernel_rfl) (by kernel_rfl) (fun _ _ _ h => h) (rfl : wr.drew = wr.drew) (by rfl) ?_ ?_
                rotate_left
                · (intro wq; go_simp; try with_reducible rfl)
                simp only [Act.put, List.setIfInBounds_toArray, List.set_cons_zero, List.set_cons_succ]
                refine wpE_take 1 (v := ?_) rfl (by kernel_rfl) (by kernel_rfl) (by kernel_rfl) (fun _ _ _ h => h) (rfl : wr.drew = wr.drew) (by rfl) ?_ ?_
                rotate_left
                · (intro wq; go_simp; try with_reducible rfl)
                simp only [Act.put, List.setIfInBounds_toArray, List.set_cons_zero, List.set_cons_succ]
                refine wpE_take 2 (v := ?_) rfl (by kernel_rfl) (by kernel_rfl) (by kernel_rfl) (fun _ _ _ h => h) (rfl : wr.drew = wr.drew) (by rfl) ?_ ?_
                rotate_left
                · (intro wq; go_simp; try with_reducible rfl)
                simp only [Act.put, List.setIfInBounds_toArray, List.set_cons_zero, List.set_cons_succ]
                refine wpE_take 3 (v := ?_) rfl (by kernel_rfl) (by kernel_rfl) (by kernel_rfl) (fun _ _ _ h => h) (rfl : wr.drew = wr.drew) (by rfl) ?_ ?_
                rotate_left
                · (intro wq; go_simp; try with_reducible rfl)
                simp only [Act.put, List.setIfInBounds_toArray, List.set_cons_zero, List.set_cons_succ]
                refine wpE_look 4 (v := .int .i64 q) rfl rfl (by kernel_rfl) (by kernel_rfl) (by kernel_rfl) (by kernel_rfl) (fun _ _ _ h => h) (rfl : wr.drew = wr.drew) (by rfl) (fun w hS => by subst hS; go_simp) ?_
                simp only [Act.put, List.setIfInBounds_toArray, List.set_cons_zero, List.set_cons_succ]
                refine wpE_take 5 (v := ?_) rfl (by kernel_rfl) (by kernel_rfl) (by kernel_rfl) (fun _ _ _ h => h) (rfl : wr.drew = wr.drew) (by rfl) ?_ ?_
                rotate_left
                · (intro wq; go_simp; try with_reducible rfl)
                simp only [Act.put, List.setIfInBounds_toArray, List.set_cons_zero, List.set_cons_succ]
                refine wpE_take 6 (v := ?_) rfl (by kernel_rfl) (by kernel_rfl) (by kernel_rfl) (fun _ _ _ h => h) (rfl : wr.drew = wr.drew) (by rfl) ?_ ?_
                rotate_left
                · (intro wq; go_simp; try with_reducible rfl)
                simp only [Act.put, List.setIfInBounds_toArray, List.set_cons_zero, List.set_cons_succ]
                refine wpE_take 10 (v := ?_) rfl (by kernel_rfl) (by kernel_rfl) (by kernel_rfl) (fun _ _ _ h => h) (rfl : wr.drew = wr.drew) (by rfl) ?_ ?_
                rotate_left
                · (intro wq; go_simp; try with_reducible rfl)
                simp only [Act.put, List.setIfInBounds_toArray, List.set_cons_zero, List.set_cons_succ]
                refine wpE_take 11 (v := ?_) rfl (by kernel_rfl) (by kernel_rfl) (by kernel_rfl) (fun _ _ _ h => h) (rfl : wr.drew = wr.drew) (by rfl) ?_ ?_
                rotate_left
                · (intro wq; go_simp; try with_reducible rfl)
                simp only [Act.put, List.setIfInBounds_toArray, List.set_cons_zero, List.set_cons_succ]
                refine wpE_take 12 (v := ?_) rfl (by kernel_rfl) (by kernel_rfl) (by kernel_rfl) (fun _ _ _ h => h) (rfl : wr.drew = wr.drew) (by rfl) ?_ ?_
                rotate_left
                · (intro wq; go_simp; try with_reducible rfl)
                simp only [Act.put, List.setIfInBounds_toArray, List.set_cons_zero, List.set_cons_succ]
                refine wpE_look 13 (v := .int .u8 y.toNat) rfl rfl (by kernel_rfl) (by kernel_rfl) (by kernel_rfl) (by kernel_rfl) (fun _ _ _ h => h) (rfl : wr.drew = wr.drew) (by rfl) (fun w hS => by subst hS; go_simp) ?_
                simp only [Act.put, List.setIfInBounds_toArray, List.set_cons_zero, List.set_cons_succ]
                refine wpE_exec 7 rfl (by kernel_rfl) (by rfl) ?_
                intro K hK
                go_simp
                refine (wiwithin_any q (B.length : Int) wr.drew (by omega) (by omega) Hok.out).mono ?_
                rintro e w7 ⟨rfl, rfl⟩
                rw [Hi.out]
                have hS1 := (rfl : wr.drew = wr.drew)
                refine hK _ _ (fun x => x = wr.drew) (.inr (fun x h => h)) hS1 ?_
                clear hK K
                refine wpE_take 8 (v := ?_) rfl (by kernel_rfl) (by kernel_rfl) (by kernel_rfl) (fun _ _ _ h => h) hS1 (by rfl) ?_ ?_
                rotate_left
                · (intro wq; go_simp; try with_reducible rfl)
                simp only [Act.put, List.setIfInBounds_toArray, List.set_cons_zero, List.set_cons_succ]
                refine wpE_look 9 (v := .int .u8 x.toNat) rfl rfl (by kernel_rfl) (by kernel_rfl) (by kernel_rfl) (by kernel_rfl) (fun _ _ _ h => h) hS1 (by rfl) (fun w hS => by subst hS; go_simp) ?_
                simp only [Act.put, List.setIfInBounds_toArray, List.set_cons_zero, List.set_cons_succ]
                refine wpE_take 14 (v := .int .u8 z.toNat) rfl (by kernel_rfl) (by kernel_rfl) (by kernel_rfl) (fun _ _ _ h => h) hS1 (by rfl) (by intro wq; go_simp; rw [← Hz.out]; exact IntKind.wrap_u8' _) ?_
                simp only [Act.put, List.setIfInBounds_toArray, List.set_cons_zero, List.set_cons_succ]
                refine wpE_take 15 (v := ?_) rfl (by kernel_rfl) (by kernel_rfl) (by kernel_rfl) (fun _ _ _ h => h) hS1 (by rfl) ?_ ?_
                rotate_left
                · (intro wq; go_simp; try with_reducible rfl)
                simp only [Act.put, List.setIfInBounds_toArray, List.set_cons_zero, List.set_cons_succ]
                refine wpE_exec 16 rfl (by kernel_rfl) (by rfl) ?_
                intro K hK
                go_simp
                have hS2 := trivial
                refine hK _ _ (fun x => True) (.inl (by kernel_rfl)) hS2 ?_
                clear hK K
                refine wpE_done (by kernel_rfl) ?_ _
                go_wp2_with fail
                go_roundw
                case rel => exact ⟨k + 1, M.set i z, by omega, by go_num, by rw [List.length_set]; exact HM.out, by have := (hown.set i (by omega) (B8 z)).drew; rw [bs_set3] at this; exact this, (hy.trans (Ext.setCell (S := just bad.block) _ _ _ (add_block _ _)) (fun j hj h => by have := (hown.base bad rfl).1; simp only [Esc.just] at h; omega)).comp (Ext.drew no _)⟩
                case measure => simp [intOf]; omega
              · have hcs : at'.length ≤ k ∨ (k < at'.length ∧ ys.length ≤ k) ∨ (k < at'.length ∧ k < ys.length ∧ 3 ≤ k) := by omega
                clear hall
                rcases hcs with h | ⟨h1, h2⟩ | ⟨h1, h2, h3⟩
                · have d1 : decide ((k : Int) < at'.length) = false := by rw [decide_eq_false_iff_not]; omega
                  go_wp2_with fail
                  go_meet
                  exact ⟨M, HM.out, hown, hy⟩
                · have d1 : decide ((k : Int) < at'.length) = true := by rw [decide_eq_true_eq]; omega
                  have d2 : decide ((k : Int) < ys.length) = false := by rw [decide_eq_false_iff_not]; omega
                  go_wp2_with fail
                  go_meet
                  exact ⟨M, HM.out, hown, hy⟩
                · have d1 : decide ((k : Int) < at'.length) = true := by rw [decide_eq_true_eq]; omega
                  have d2 : decide ((k : Int) < ys.length) = true := by rw [decide_eq_true_eq]; omega
                  have d3 : decide ((k : Int) < 3) = false := by rw [decide_eq_false_iff_not]; omega
                  go_wp2_with fail
                  go_meet
                  exact ⟨M, HM.out, hown, hy⟩
          case rest =>
            clear hoz hy
            obtain ⟨M, hM, hoz, hy⟩ := hcut
            have HM := Lib.hid hM
            clear hM
            go_upto_if 109 with fail
            go_cut [16] (fun s16 wx => ∃ M' : List UInt8, s16 = .slice a4 M'.length c4 ∧ M'.length ≤ 30000 ∧ M'.length ≤ c4 ∧ Rd wx a4 (bs M') ∧ Ext no v7 wx)
            case first =>
              by_cases hc : cut.tmod 2 = 1
              · have hc1 : (cut.tmod 2 == 1) = true := by rw [beq_iff_eq]; exact hc
                clear hc
                have hw2 : wrap64 (cut.tdiv 2) = cut.tdiv 2 := by have := Hc2.out; unfold wrap64; unfold I64ok at this; omega
                go_wp2_with fail
                refine (wiwithin_any (cut.tdiv 2) (B.length + 1) wc (by omega) (by omega) Hc2.out).mono ?_
                rintro e w3 ⟨rfl, rfl⟩
                obtain ⟨jj, hjj⟩ : ∃ jj : Nat, cut.tdiv 2 % ((B.length : Int) + 1) = jj := ⟨(cut.tdiv 2 % ((B.length : Int) + 1)).toNat, by have := Int.emod_nonneg (cut.tdiv 2) (show (B.length : Int) + 1 ≠ 0 by omega); omega⟩
                have hjl : jj ≤ B.length := by have := Int.emod_lt_of_pos (cut.tdiv 2) (show (0 : Int) < (B.length : Int) + 1 by omega); omega
                rw [hjj]
                have hnc := hoz.nc
                have cutj : ∀ w, (Instr.sliceAt 40 (.slice a4 B.length c4) none (some (.int .i64 (jj : Int))) none).run Try.prog w = .ok (.slice a4 jj c4) w := fun w => run_cut_h TBytes w a4 B.length c4 .i64 jj (by omega)
                clear hjj
                have hjM : (M.take jj).length = jj := by rw [List.length_take, HM.out]; omega
                have HjM := Lib.hid hjM
                clear hjM
                go_wp2_with fail
                go_meet
                exact ⟨M.take jj, by rw [HjM.out], by rw [HjM.out]; omega, by rw [HjM.out]; omega, by rw [← bs_take]; exact hoz.rd.take jj, hy⟩
              · have hc1 : (cut.tmod 2 == 1) = false := by rw [beq_eq_false_iff_ne]; exact hc
                clear hc
                go_wp2_with fail
                go_meet
                exact ⟨M, by rw [HM.out], by rw [HM.out]; omega, by have := hoz.nc; have := HM.out; omega, hoz.rd, hy⟩
            case rest =>
              have hcm4 := hoz.cm
              clear hoz hy
              obtain ⟨M', rfl, hM3, hMc, hz2, hy⟩ := hcut
              obtain ⟨v9, h0⟩ : ∃ v, v = wc := ⟨_, rfl⟩
              subst h0
              have hx := hx7.comp hy
              have hin := hin7.no hy
              have hC := hC7.ext (cmd_ne _ _) hy (fun h => h)
              clear hx7 hin7 hC7 hy
              have HMl := Lib.hid (parseCmd_short M')
              go_wp2_with (at_builtin; refine wpList_append TBytes rfl rfl rfl (emptied4 v9 5) rfl (hz2.alloc _) (by simp) (bs_one _) (by unfold maxLen; omega) (by omega) (by simp) ?_)
              intro a5 c5 u0 happ
              obtain ⟨hoB, hy⟩ := copied4 happ
              clear happ
              have hC := hC.ext (cmd_ne _ _) hy (fun h => h)
              have hin := hin.no hy
              have hz2 := hz2.ext hy (fun _ _ h => h)
              replace hx := hx.comp hy
              clear hy
              go_wp2_with fail
              refine (wparseCmd_any u0 a5 c5 M' hoB.rd (by omega)).mono ?_
              rintro e u1 ⟨k3, rfl, hKp, hy⟩
              have hP1 := hKp.now
              have hC := hC.ext (cmd_ne _ _) hy (fun h => h)
              have hin := hin.no hy
              have hz2 := hz2.ext hy (fun _ _ h => h)
              replace hx := hx.comp hy
              clear hKp hy hoB
              obtain ⟨X3, hX⟩ : ∃ X, X = parseCmd M' := ⟨_, rfl⟩
              obtain ⟨E3, hE⟩ : ∃ E, E = cmdErr M' := ⟨_, rfl⟩
              rw [← hX] at hP1 HMl
              rw [← hX, ← hE]
              have HX := Lib.hid hX
              have HE := Lib.hid hE
              clear hX hE
              rename_i hK
              dsimp only
              refine hK _ _ ?_
              clear hK
              have hgl := hC.lt (cmd_ne _ _)
              refine wp_move (.tuple #[X3.val k3, .int .i64 E3]) rfl rfl (by rfl) ?_
              simp only [Act.put, List.setIfInBounds_toArray, List.set_cons_zero, List.set_cons_succ]
              refine wp_extract (vs := #[X3.val k3, .int .i64 E3]) (v := X3.val k3) rfl rfl (by rfl) rfl ?_
              simp only [Act.put, List.setIfInBounds_toArray, List.set_cons_zero, List.set_cons_succ]
              refine wp_extract (vs := #[X3.val k3, .int .i64 E3]) (v := .int .i64 E3) rfl rfl (by rfl) rfl ?_
              simp only [Act.put, List.setIfInBounds_toArray, List.set_cons_zero, List.set_cons_succ]
              refine wp_alloc_cmd rfl rfl (fun hV => ?_)
              simp only [Act.put, List.setIfInBounds_toArray, List.set_cons_zero, List.set_cons_succ]
              have hxc := Ext.alloc no u1 (.cells (CmdR.zero.cells CmdA.zero).toArray 27)
              obtain ⟨p3, hp⟩ : ∃ p, p = u1.heap.size := ⟨_, rfl⟩
              rw [← hp] at hV ⊢
              refine wp_store_cmd (m := X3) (h := k3) rfl rfl (by rfl) (by rfl) hV rfl (fun hp3 hxs => ?_)
              simp only [Act.put, List.setIfInBounds_toArray, List.set_cons_zero, List.set_cons_succ]
              have hy : Ext no u1 ((u1.alloc (.cells (CmdR.zero.cells CmdA.zero).toArray 27)).setCells p3 0 (X3.cells k3)) := hxc.trans hxs (fun k hk e => by have e : k = p3 := e; omega)
              have hC := hC.ext (cmd_ne _ _) hy (fun h => h)
              have hin := hin.no hy
              have hz2 := hz2.ext hy (fun _ _ h => h)
              have hP1 := hP1.no hy
              replace hx := hx.comp hy
              have hp3g : g < p3 := by have := hgl; omega
              clear hp hV hxc hxs hy
              generalize (u1.alloc (.cells (CmdR.zero.cells CmdA.zero).toArray 27)).setCells p3 0 (X3.cells k3) = u2 at *
              refine wp_assign (.int .i64 E3) rfl rfl (by rfl) ?_
              simp only [Act.put, List.setIfInBounds_toArray, List.set_cons_zero, List.set_cons_succ]
              go_wp2_with fail
              refine (xparseCmd_any u2 a4 c4 M' hz2 hMc hcm4).mono ?_
              rintro e u3 ⟨k4, rfl, hKp, hy⟩
              have hQ1 := hKp.now
              rw [← HX.out] at hQ1 ⊢
              rw [← HE.out]
              have hC := hC.ext (cmd_ne _ _) hy (fun h => h)
              have hin := hin.no hy
              have hP1 := hP1.no hy
              have hp3 := hp3.ext (cmd_ne _ _) hy (fun h => h)
              replace hx := hx.comp hy
              clear hKp hy
              rename_i hK
              dsimp only
              refine hK _ _ ?_
              clear hK
              have hgl := hC.lt (cmd_ne _ _)
              refine wp_move (.tuple #[X3.val k4, .int .i64 E3]) rfl rfl (by rfl) ?_
              simp only [Act.put, List.setIfInBounds_toArray, List.set_cons_zero, List.set_cons_succ]
              refine wp_extract (vs := #[X3.val k4, .int .i64 E3]) (v := X3.val k4) rfl rfl (by rfl) rfl ?_
              simp only [Act.put, List.setIfInBounds_toArray, List.set_cons_zero, List.set_cons_succ]
              refine wp_extract (vs := #[X3.val k4, .int .i64 E3]) (v := .int .i64 E3) rfl rfl (by rfl) rfl ?_
              simp only [Act.put, List.setIfInBounds_toArray, List.set_cons_zero, List.set_cons_succ]
              refine wp_alloc_cmd rfl rfl (fun hV => ?_)
              simp only [Act.put, List.setIfInBounds_toArray, List.set_cons_zero, List.set_cons_succ]
              have hxc := Ext.alloc no u3 (.cells (CmdR.zero.cells CmdA.zero).toArray 27)
              obtain ⟨p4, hp⟩ : ∃ p, p = u3.heap.size := ⟨_, rfl⟩
              rw [← hp] at hV ⊢
              refine wp_store_cmd (m := X3) (h := k4) rfl rfl (by rfl) (by rfl) hV rfl (fun hp4 hxs => ?_)
              simp only [Act.put, List.setIfInBounds_toArray, List.set_cons_zero, List.set_cons_succ]
              have hy : Ext no u3 ((u3.alloc (.cells (CmdR.zero.cells CmdA.zero).toArray 27)).setCells p4 0 (X3.cells k4)) := hxc.trans hxs (fun k hk e => by have e : k = p4 := e; omega)
              have hC := hC.ext (cmd_ne _ _) hy (fun h => h)
              have hin := hin.no hy
              have hP1 := hP1.no hy
              have hp3 := hp3.ext (cmd_ne _ _) hy (fun h => h)
              have hQ1 := hQ1.no hy
              replace hx := hx.comp hy
              have hp4g : g < p4 := by have := hgl; omega
              clear hp hV hxc hxs hy
              generalize (u3.alloc (.cells (CmdR.zero.cells CmdA.zero).toArray 27)).setCells p4 0 (X3.cells k4) = u4 at *
              refine wp_assign (.int .i64 E3) rfl rfl (by rfl) ?_
              simp only [Act.put, List.setIfInBounds_toArray, List.set_cons_zero, List.set_cons_succ]
              go_upto_region 22 with fail
              refine wp_region_lit ?_
              refine wp_val (by rfl) (.int .i64 E3) (by go_simp) ?_
              simp only [Act.put, List.setIfInBounds_toArray, List.set_cons_zero, List.set_cons_succ]
              refine wp_val (by rfl) (.int .i64 E3) (by go_simp) ?_
              simp only [Act.put, List.setIfInBounds_toArray, List.set_cons_zero, List.set_cons_succ]
              refine wp_val (by rfl) (.bool false) (by go_simp) ?_
              simp only [Act.put, List.setIfInBounds_toArray, List.set_cons_zero, List.set_cons_succ]
              refine wp_val (by rfl) (.bool false) (by go_simp) ?_
              simp only [Act.put, List.setIfInBounds_toArray, List.set_cons_zero, List.set_cons_succ]
              refine wp_val (by rfl) (X3.val k3) (run_load_cmd rfl (by rfl) hp3) ?_
              simp only [Act.put, List.setIfInBounds_toArray, List.set_cons_zero, List.set_cons_succ]
              refine wp_val (by rfl) (X3.val k4) (run_load_cmd rfl (by rfl) hp4) ?_
              simp only [Act.put, List.setIfInBounds_toArray, List.set_cons_zero, List.set_cons_succ]
              go_wp2_with fail
              refine (samecmd_eq u4 X3 k3 k4 hP1 hQ1 HMl.out.1 HMl.out.2.1 HMl.out.2.2).mono ?_
              rintro e u5 ⟨rfl, hy⟩
              have hC := hC.ext (cmd_ne _ _) hy (fun h => h)
              have hin := hin.no hy
              replace hx := hx.comp hy
              clear hy
              rename_i hK
              dsimp only
              refine hK _ _ ?_
              clear hK
              refine wp_val (by rfl) (.bool false) (by go_simp) ?_
              simp only [Act.put, List.setIfInBounds_toArray, List.set_cons_zero, List.set_cons_succ]
              refine wp_val (by rfl) (.bool false) (by go_simp) ?_
              simp only [Act.put, List.setIfInBounds_toArray, List.set_cons_zero, List.set_cons_succ]
              clear hQ1 hp4 hp3 hP1 HMl HX HE
              go_upto_region 24 with fail
              refine wp_region_lit ?_
              refine wp_load_cmd (m := C) (h := h) rfl rfl (by rfl) hC.range ?_
              simp only [Act.put, List.setIfInBounds_toArray, List.set_cons_zero, List.set_cons_succ]
              refine wp_val (by rfl) ((cmdM C).val (cmdMA h)) (by kernel_rfl) ?_
              simp only [Act.put, List.setIfInBounds_toArray, List.set_cons_zero, List.set_cons_succ]
              go_wp2_with fail
              have hgl := hC.lt (cmd_ne _ _)
              refine (wigood_any u5 (cmdM C) (cmdMA h) (cmdM_in hin) (cmdM_ok hok)).mono ?_
              rintro e u6 ⟨hG, rfl, hGin, hy, hGb, hGk⟩
              have hni := goodM_nice (cmdM C) (cmdM_ok hok) (cmdM_few hfew)
              have hC := hC.ext (cmd_ne _ _) hy (fun h => h)
              replace hx := hx.comp hy
              have hs56 := hy.size
              clear hy hGb hGin hin
              obtain ⟨G, hGe⟩ : ∃ G, G = goodM (cmdM C) := ⟨_, rfl⟩
              rw [← hGe] at hni hGk ⊢
              clear hGe
              rename_i hK
              dsimp only
              refine hK _ _ ?_
              clear hK
              refine wp_alloc_msg rfl rfl (fun hV => ?_)
              simp only [Act.put, List.setIfInBounds_toArray, List.set_cons_zero, List.set_cons_succ]
              have hxc := Ext.alloc no u6 (.cells (MsgR.zero.cells MsgA.zero).toArray 36)
              obtain ⟨gm, hp⟩ : ∃ p, p = u6.heap.size := ⟨_, rfl⟩
              rw [← hp] at hV ⊢
              refine wp_store_msg (m := G) (h := hG) rfl rfl (by rfl) (by rfl) hV rfl (fun hW hxs => ?_)
              simp only [Act.put, List.setIfInBounds_toArray, List.set_cons_zero, List.set_cons_succ]
              have hy : Ext no u6 ((u6.alloc (.cells (MsgR.zero.cells MsgA.zero).toArray 36)).setCells gm 0 (G.cells hG)) := hxc.trans hxs (fun k hk e => by have e : k = gm := e; omega)
              have hC := hC.ext (cmd_ne _ _) hy (fun h => h)
              replace hx := hx.comp hy
              have hgm : g < gm := by omega
              have hy6 := hy
              clear hp hV hxc hxs hy
              generalize (u6.alloc (.cells (MsgR.zero.cells MsgA.zero).toArray 36)).setCells gm 0 (G.cells hG) = u7 at *
              go_upto_region 25 with fail
              refine wp_region_lit ?_
              refine wp_val (by rfl) (.pointer (some ⟨gm, 8, none⟩)) (by go_simp) ?_
              simp only [Act.put, List.setIfInBounds_toArray, List.set_cons_zero, List.set_cons_succ]
              have hR : u7.rangeAt gm 8 (G.cmd.cells hG.c) := fun j v hv => hW.cell (8 + j) v (by
                have e : (G.cells hG)[8 + j]? = ((G.cells hG).drop 8)[j]? := by rw [List.getElem?_drop]
                rw [e]
                show (G.cmd.cells hG.c ++ _)[j]? = some v
                rw [List.getElem?_append_left (List.getElem?_eq_some_iff.1 hv).1]
                exact hv)
              refine wp_load_cmd (m := G.cmd) (h := hG.c) rfl rfl (by rfl) hR ?_
              simp only [Act.put, List.setIfInBounds_toArray, List.set_cons_zero, List.set_cons_succ]
              refine wp_store_cmd (m := G.cmd) (h := hG.c) rfl rfl (by rfl) (by rfl) hC rfl (fun hC8 hxs => ?_)
              simp only [Act.put, List.setIfInBounds_toArray, List.set_cons_zero, List.set_cons_succ]
              have hx8 := hx.fresh hxs hgw
              have hGn : j = 0 → G.In (u7.setCells g 0 (G.cmd.cells hG.c)) hG := fun e => hGk (just g) _ ((hy6.mono (fun _ _ h => h.elim)).comp hxs) (fun k hk => by have e : k = g := hk; omega) (cmdM_in ((Hin0.out e).no hx8))
              clear hGk hy6 hW hR hC hx
              generalize u7.setCells g 0 (G.cmd.cells hG.c) = u8 at *
              have HGn := Lib.hid hGn
              clear hGn
              go_wp2_with fail
              go_roundw
              case rel => exact ⟨j + 1, by go_num, by omega, hx8, fun e => ⟨G.cmd, hG.c, hC8, (HGn.out (by omega)).c, hni.cmd.ok, nice_few hni.cmd, fun _ => hni.cmd, fun e => by omega⟩⟩
              case measure => simp [intOf]; omega
end Go.Proofs.Ytddobhihjljcgaa
