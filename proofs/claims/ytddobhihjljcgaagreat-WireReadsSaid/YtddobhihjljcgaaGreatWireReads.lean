/- The walk of WireReads. -/
import Derived.Test.YtddobhihjljcgaaGreatWxR
import Derived.Test.YtddobhihjljcgaaGreatWxN
import Derived.Test.YtddobhihjljcgaaGreatWxL
import Derived.Test.YtddobhihjljcgaaGreatWxS
import Derived.Test.YtddobhihjljcgaaGreatWiI
import Derived.Test.YtddobhihjljcgaaGreatWiO
import Derived.Deep.CutBlock
namespace Go.Proofs.YtddobhihjljcgaaGreat
open Go.RowKit Go.Esc
set_option linter.unusedVariables false
set_option linter.unusedSimpArgs false
theorem emptied4 (w : World) (te : TypeId) : Own (w.alloc (.cells #[] te)) w.heap.size (some ⟨w.heap.size, 0, none⟩) 1 0 0 [] :=
 Own.fresh w _ _ _ _ _ _ _ _ (Nat.le_refl _) (by simp) (Nat.le_refl _) (Nat.zero_le _) (by simp) (by simp) (.inl (Nat.le_refl _))
theorem copied4 {w w' : World} {te : TypeId} {a' : Option Addr} {c' m : Nat} {l : List UInt8} (h : App (w.alloc (.cells #[] te)) w' w.heap.size 1 (some ⟨w.heap.size, 0, none⟩) 0 0 [] a' c' m (bs l)) :
  Own w' w.heap.size a' 1 m c' (bs l) ∧ Ext no w w' := by
 refine ⟨by have := h.own; rwa [Nat.zero_add, List.nil_append] at this, ?_⟩
 exact Ext.ofBelow (((Below.refl _ _).alloc (Nat.le_refl _) _).trans ((emptied4 w te).below h.ext (by simp))) (Nat.le_refl _)
theorem appended4 {w w1 w2 : World} {a a' : Option Addr} {n c c' m : Nat} {M l : List UInt8} (ho : Own w1 w.heap.size a 1 n c (bs M)) (hx : Ext no w w1) (h : App w1 w2 w.heap.size 1 a n c (bs M) a' c' m (bs l)) :
  Own w2 w.heap.size a' 1 (n + m) c' (bs (M ++ l)) ∧ Ext no w w2 :=
 ⟨by rw [bs_append]; exact h.own, Ext.ofBelow (hx.belowAll.trans (ho.below h.ext hx.size)) (Nat.le_refl _)⟩
theorem bs_set3 (l : List UInt8) (i : Nat) (z : UInt8) : (bs l).set i (B8 z) = bs (l.set i z) := by simp [bs, List.map_set]
theorem tdiv2_ok3 (n : Int) (h : I64ok n) : I64ok (n.tdiv 2) := by
 unfold I64ok at *
 have h1 := @Int.tdiv_eq_ediv n 2
 have h2 : Int.sign 2 = 1 := rfl
 rw [h2] at h1
 split at h1 <;> omega
theorem short_of {m : MsgR} (h : Fine m) : ShortM m := ⟨by have := h.few.cmd.wl; omega, by have := h.few.cmd.ol; omega, fun o ho => by have := h.cd o ho; omega, by have := h.few.rep.sl; omega, by have := h.few.rep.il; omega, by have := h.few.rep.ul; omega, by have := h.few.ol; omega, fun o ho => by have := h.md o ho; omega, by have := h.few.sub; omega⟩
structure Piece where
 a : Option Addr
 l : List UInt8
 c : Nat
def Piece.v (p : Piece) : Value := .slice p.a p.l.length p.c
theorem run_str5 {op : Oper} {x : Operand} {a : Act} {w : World} {sa : Option Addr} {n c : Nat} {l : List UInt8} (ho : op.op = .convert 37 9 x) (hx : a.eval x = .slice sa n c) (hn : n = l.length) (hr : Rd w sa (bs l)) : (execOp a.eval op).run Tryz.prog w = .ok (.value (.string (str l))) w :=
 yields_string (by exact Tryz.underlying37) (by exact Tryz.underlying5) (by exact Tryz.underlying9) ho hx hn hr
set_option maxRecDepth 100000 in
set_option maxHeartbeats 40000000 in
theorem wreads_walk (w : World) (m : MsgR) (h : MsgA) (ta : Option Addr) (at' : List Int) (tc : Nat) (ya : Option Addr) (ys : List UInt8) (yc : Nat) (cut : Int) (ra : Option Addr) (raw : List UInt8) (rc : Nat) (sum : Bool)
  (hin : m.In w h) (hok : m.ok) (htd : Rd w ta (is at')) (htok : ∀ n ∈ at', I64ok n) (htl : at'.length ≤ tc) (htc : tc ≤ maxLen) (hyd : Rd w ya (bs ys)) (hyl : ys.length ≤ yc) (hyc : yc ≤ maxLen) (hcut : I64ok cut) (hrd : Rd w ra (bs raw)) (hrl : raw.length ≤ rc) (hrc : rc ≤ maxLen) :
  Calls Tryz.prog 3 #[m.val h, .slice ta at'.length tc, .slice ya ys.length yc, .int .i64 cut, .slice ra raw.length rc, .bool sum] w fun e w' => e = .returned (.bool true) ∧ Ext no w w' := by
 have Htok := Lib.hid htok
 have Hc2 := Lib.hid (tdiv2_ok3 cut hcut)
 have Hrcm := Lib.hid hrc
 clear htok hcut
 unfold maxLen at htc hyc hrc
 go_enter Tryz.func3, Tryz.ntmps3
 go_upto_region 0 with fail
 refine wp_region_lit ?_
 refine wp_box_msg rfl rfl (by rfl) (fun hC => ?_)
 simp only [pz]
 have hxa := Ext.alloc no w (.cells (m.cells h).toArray 36)
 obtain ⟨g, hg⟩ : ∃ g, g = w.heap.size := ⟨_, rfl⟩
 rw [← hg] at hC ⊢
 clear hg
 generalize w.alloc (.cells (m.cells h).toArray 36) = w1 at *
 go_wp2_with fail
 refine (wiknown_any w1).mono ?_
 rintro e w2 ⟨rfl, hy⟩
 have hC := hC.ext (msg_ne _ _) hy (fun h => h)
 have hx := hxa.comp hy
 clear hxa hy
 go_upto_region 3 with fail
 refine wp_region_lit ?_
 refine wp_load_msg (m := m) (h := h) rfl rfl (by rfl) hC ?_
 simp only [pz]
 go_wp2_with fail
 refine (wifew_any w2 m h (hin.no hx) hok).mono ?_
 rintro e w3 ⟨bf, rfl, hbf, hy⟩
 have hC := hC.ext (msg_ne _ _) hy (fun h => h)
 replace hx := hx.comp hy
 clear hy
 cases bf with
 | false =>
  go_wp2_with fail
  go_ret
  exact ⟨rfl, hx⟩
 | true =>
  have HF := Lib.hid (hbf rfl).1
  clear hbf
  by_cases h500 : 500 < raw.length
  ·have d500 : decide ((500 : Int) < raw.length) = true := decT (by omega)
   go_wp2_with fail
   go_ret
   exact ⟨rfl, hx⟩
  have d500 : decide ((500 : Int) < raw.length) = false := decF (by omega)
  go_upto_region 5 with fail
  refine wp_region_lit ?_
  refine wp_load_msg (m := m) (h := h) rfl rfl (by rfl) hC ?_
  simp only [pz]
  go_wp2_with fail
  refine (wigood_any w3 m h (hin.no hx) hok).mono ?_
  rintro e w4 ⟨hG, rfl, hGin, hy, hGb, hGk⟩
  have hni := goodM_nice m hok HF.out
  replace hx := hx.comp hy
  clear hy hGb hGk hC hin hok HF
  obtain ⟨M, hM⟩ : ∃ M, M = goodM m := ⟨_, rfl⟩
  rw [← hM] at hGin hni ⊢
  clear hM
  rename_i hK
  dsimp only
  refine hK _ _ ?_
  clear hK
  go_wp2_with fail
  refine (of_any w4 M hG).mono ?_
  rintro e w5 ⟨rfl, hy⟩
  have hGin := hGin.no hy
  replace hx := hx.comp hy
  clear hy
  rename_i hK
  dsimp only
  refine hK _ _ ?_
  clear hK
  go_wp2_with fail
  refine (refbytes_any w5 M hG hGin hni).mono ?_
  rintro e w6 ⟨aB, cB, rfl, hoB, hy⟩
  replace hx := hx.comp hy
  clear hy hGin
  have hB : bytesOf M = frame (bodyEnc M) := by unfold bytesOf; rw [if_pos hni.bytes]
  have hBl := bodyEnc_le hni.ok hni.few
  have hfl := frame_length (bodyEnc M)
  rw [← hB] at hfl
  obtain ⟨B, hBe⟩ : ∃ B, B = bytesOf M := ⟨_, rfl⟩
  rw [← hBe] at hfl hoB ⊢
  have hB1 : 8 ≤ B.length ∧ B.length ≤ 45000 := by omega
  clear hB hBl hfl hBe hni
  go_upto_if 42 with fail
  go_cut [13] (fun s13 wx => ∃ (a : Option Addr) (L : List UInt8) (c : Nat), s13 = .slice a L.length c ∧ L.length ≤ 45000 ∧ Rd wx a (bs L) ∧ Ext no w wx)
  case first =>
   cases sum with
   | false =>
    go_wp2_with fail
    go_meet
    exact ⟨aB, B, cB, rfl, hB1.2, hoB.rd, hx⟩
   | true =>
    have hnc := hoB.nc
    have hlow : ∀ w, (Instr.sliceAt 37 (.slice aB B.length cB) (some (.int .i64 8)) none none).run Tryz.prog w = .ok (.slice (cutAt aB cB 8 1) (B.length - 8) (cB - 8)) w := fun w => run_cut_l TBytes w aB _ cB .i64 8 hB1.1
    have hrd8 : Rd w6 (cutAt aB cB 8 1) (bs (B.drop 8)) := by
     have := hoB.rd.cutAt cB 8 1 (fun e => by rw [bs_length]; omega)
     rw [show (bs B).drop (8 * 1) = bs (B.drop 8) from by simp [bs]] at this
     exact this
    go_wp2_with fail
    go_meet
    exact ⟨_, B.drop 8, _, by rw [List.length_drop], by rw [List.length_drop]; omega, hrd8, hx⟩
  case rest =>
   clear hoB hx hB1
   obtain ⟨a3, L, c3, rfl, hLl, hrL, hx⟩ := hcut
   obtain ⟨v7, h0⟩ : ∃ v, v = wc := ⟨_, rfl⟩
   subst h0
   go_wp2_with (at_builtin; refine wpList_append TBytes rfl rfl rfl (emptied4 v7 5) rfl (hrL.alloc _) (by simp) (bs_one _) (by unfold maxLen; omega) (by omega) (by simp) ?_)
   intro a4 c4 v8 happ
   obtain ⟨hoz, hy⟩ := copied4 happ
   clear happ hrL
   have hx7 := hx
   clear hx
   go_upto_block 0 with fail
   go_cut [15] (fun s15 wx => ∃ M : List UInt8, M.length = L.length ∧ Own wx v7.heap.size a4 1 L.length c4 (bs M) ∧ Ext no v7 wx)
   case first =>
    go_wp2_with fail
    go_loopw [15] (fun s15 wl => ∃ (k : Nat) (M : List UInt8), k ≤ at'.length ∧ s15 = .int .i64 k ∧ M.length = L.length ∧ Own wl v7.heap.size a4 1 L.length c4 (bs M) ∧ Ext no v7 wl) (fun s15 _ => at'.length - (intOf s15).toNat)
    case atStart => exact ⟨0, L, Nat.zero_le _, rfl, rfl, hoz, hy⟩
    case round =>
     clear hoz hy
     obtain ⟨k, M, hk, rfl, hM, hown, hy⟩ := hrel
     have hx := hx7.comp hy
     have HM := Lib.hid hM
     clear hM
     by_cases hall : k < at'.length ∧ k < ys.length ∧ k < 3 ∧ 0 < L.length
     ·obtain ⟨hk1, hk2, hk3, hk4⟩ := hall
      have d1 : decide ((k : Int) < at'.length) = true := by rw [decide_eq_true_eq]; omega
      have d2 : decide ((k : Int) < ys.length) = true := by rw [decide_eq_true_eq]; omega
      have d3 : decide ((k : Int) < 3) = true := by rw [decide_eq_true_eq]; omega
      have d4 : decide ((0 : Int) < L.length) = true := by rw [decide_eq_true_eq]; omega
      obtain ⟨tad, rfl, _⟩ := htd.ne (by simp; omega)
      obtain ⟨yad, rfl, _⟩ := hyd.ne (by simp; omega)
      obtain ⟨bad, rfl, hblt⟩ := hown.rd.ne (by rw [bs_length, HM.out]; omega)
      have htc1 := hx.keeps (htd.cell k (by simpa using hk1)) (fun h => h)
      have hyc1 := hx.keeps (hyd.cell k (by simpa using hk2)) (fun h => h)
      rw [show (is at')[k]'(by simpa using hk1) = .int .i64 at'[k] from by simp [is, I64]] at htc1
      rw [show (bs ys)[k]'(by simpa using hk2) = .int .u8 ys[k].toNat from by simp [bs, B8]] at hyc1
      obtain ⟨i, hi⟩ : ∃ i : Nat, at'[k] % (L.length : Int) = i := ⟨(at'[k] % (L.length : Int)).toNat, by have := Int.emod_nonneg at'[k] (show (L.length : Int) ≠ 0 by omega); omega⟩
      have hil : i < L.length := by have := Int.emod_lt_of_pos at'[k] (show (0 : Int) < L.length by omega); omega
      have hiM : i < M.length := by rw [HM.out]; exact hil
      have hbc := hown.rd.cell i (by simpa using hiM)
      rw [show (bs M)[i]'(by simpa using hiM) = .int .u8 M[i].toNat from by simp [bs, B8]] at hbc
      have hbf : wr.frozen? (bad.add i) = false := by
       obtain ⟨_, e, _, f⟩ := hown.can i (by have := hown.nc; omega)
       cases e; exact f
      have hb1 := M[i].toNat_lt
      have hb2 := ys[k].toNat_lt
      have hok' := Htok.out at'[k] (by simp)
      have Hi := Lib.hid hi
      have Hok := Lib.hid hok'
      clear hi hok'
      generalize at'[k] = q at *
      generalize ys[k] = y at *
      generalize M[i] = x at *
      obtain ⟨z, hz⟩ : ∃ z : UInt8, ((x.toNat : Int) + y.toNat) % 256 = z.toNat := ⟨x + y, by rw [UInt8.toNat_add]; simp⟩
      have Hz := Lib.hid hz
      clear hz
      go_upto_region 12 with fail
      refine wp_region_E [4, 9, 13] (fun x => x = wr.drew) (by kernel_rfl) ?_
      refine wpE_take 0 (v := ?_) rfl (by kernel_rfl) (by kernel_rfl) (by kernel_rfl) (fun _ _ _ h => h) (rfl : wr.drew = wr.drew) (by rfl) ?_ ?_
      rotate_left
      ·(intro wq; go_simp; try with_reducible rfl)
      simp only [pz]
      refine wpE_take 1 (v := ?_) rfl (by kernel_rfl) (by kernel_rfl) (by kernel_rfl) (fun _ _ _ h => h) (rfl : wr.drew = wr.drew) (by rfl) ?_ ?_
      rotate_left
      ·(intro wq; go_simp; try with_reducible rfl)
      simp only [pz]
      refine wpE_take 2 (v := ?_) rfl (by kernel_rfl) (by kernel_rfl) (by kernel_rfl) (fun _ _ _ h => h) (rfl : wr.drew = wr.drew) (by rfl) ?_ ?_
      rotate_left
      ·(intro wq; go_simp; try with_reducible rfl)
      simp only [pz]
      refine wpE_take 3 (v := ?_) rfl (by kernel_rfl) (by kernel_rfl) (by kernel_rfl) (fun _ _ _ h => h) (rfl : wr.drew = wr.drew) (by rfl) ?_ ?_
      rotate_left
      ·(intro wq; go_simp; try with_reducible rfl)
      simp only [pz]
      refine wpE_look 4 (v := .int .i64 q) rfl rfl (by kernel_rfl) (by kernel_rfl) (by kernel_rfl) (by kernel_rfl) (fun _ _ _ h => h) (rfl : wr.drew = wr.drew) (by rfl) (fun w hS => by subst hS; go_simp) ?_
      simp only [pz]
      refine wpE_take 5 (v := ?_) rfl (by kernel_rfl) (by kernel_rfl) (by kernel_rfl) (fun _ _ _ h => h) (rfl : wr.drew = wr.drew) (by rfl) ?_ ?_
      rotate_left
      ·(intro wq; go_simp; try with_reducible rfl)
      simp only [pz]
      refine wpE_take 6 (v := ?_) rfl (by kernel_rfl) (by kernel_rfl) (by kernel_rfl) (fun _ _ _ h => h) (rfl : wr.drew = wr.drew) (by rfl) ?_ ?_
      rotate_left
      ·(intro wq; go_simp; try with_reducible rfl)
      simp only [pz]
      refine wpE_take 10 (v := ?_) rfl (by kernel_rfl) (by kernel_rfl) (by kernel_rfl) (fun _ _ _ h => h) (rfl : wr.drew = wr.drew) (by rfl) ?_ ?_
      rotate_left
      ·(intro wq; go_simp; try with_reducible rfl)
      simp only [pz]
      refine wpE_take 11 (v := ?_) rfl (by kernel_rfl) (by kernel_rfl) (by kernel_rfl) (fun _ _ _ h => h) (rfl : wr.drew = wr.drew) (by rfl) ?_ ?_
      rotate_left
      ·(intro wq; go_simp; try with_reducible rfl)
      simp only [pz]
      refine wpE_take 12 (v := ?_) rfl (by kernel_rfl) (by kernel_rfl) (by kernel_rfl) (fun _ _ _ h => h) (rfl : wr.drew = wr.drew) (by rfl) ?_ ?_
      rotate_left
      ·(intro wq; go_simp; try with_reducible rfl)
      simp only [pz]
      refine wpE_look 13 (v := .int .u8 y.toNat) rfl rfl (by kernel_rfl) (by kernel_rfl) (by kernel_rfl) (by kernel_rfl) (fun _ _ _ h => h) (rfl : wr.drew = wr.drew) (by rfl) (fun w hS => by subst hS; go_simp) ?_
      simp only [pz]
      refine wpE_exec 7 rfl (by kernel_rfl) (by rfl) ?_
      intro K hK
      go_simp
      refine (wiwithin_any q (L.length : Int) wr.drew (by omega) (by omega) Hok.out).mono ?_
      rintro e w7 ⟨rfl, rfl⟩
      rw [Hi.out]
      have hS1 := (rfl : wr.drew = wr.drew)
      refine hK _ _ (fun x => x = wr.drew) (.inr (fun x h => h)) hS1 ?_
      clear hK K
      refine wpE_take 8 (v := ?_) rfl (by kernel_rfl) (by kernel_rfl) (by kernel_rfl) (fun _ _ _ h => h) hS1 (by rfl) ?_ ?_
      rotate_left
      ·(intro wq; go_simp; try with_reducible rfl)
      simp only [pz]
      refine wpE_look 9 (v := .int .u8 x.toNat) rfl rfl (by kernel_rfl) (by kernel_rfl) (by kernel_rfl) (by kernel_rfl) (fun _ _ _ h => h) hS1 (by rfl) (fun w hS => by subst hS; go_simp) ?_
      simp only [pz]
      refine wpE_take 14 (v := .int .u8 z.toNat) rfl (by kernel_rfl) (by kernel_rfl) (by kernel_rfl) (fun _ _ _ h => h) hS1 (by rfl) (by intro wq; go_simp; rw [← Hz.out]; exact IntKind.wrap_u8' _) ?_
      simp only [pz]
      refine wpE_take 15 (v := ?_) rfl (by kernel_rfl) (by kernel_rfl) (by kernel_rfl) (fun _ _ _ h => h) hS1 (by rfl) ?_ ?_
      rotate_left
      ·(intro wq; go_simp; try with_reducible rfl)
      simp only [pz]
      refine wpE_exec 16 rfl (by kernel_rfl) (by rfl) ?_
      intro K hK
      go_simp
      have hS2 := trivial
      refine hK _ _ (fun x => True) (.inl (by kernel_rfl)) hS2 ?_
      clear hK K
      refine wpE_done (by kernel_rfl) ?_ _
      go_wp2_with fail
      go_roundw
      case rel => exact ⟨k + 1, M.set i z, by omega, by go_num, by rw [List.length_set]; exact HM.out, by have := (hown.set i (by omega) (B8 z)).drew; rw [bs_set3] at this; exact this, (hy.trans (Ext.setCell (S := just bad.block) _ _ _ (add_block _ _)) (fun j hj h => by have := (hown.base bad rfl).1; simp only [Esc.just] at h; omega)).comp (Ext.drew no _)⟩
      case measure => simp [intOf]; omega
     ·have hcs : at'.length ≤ k ∨ (k < at'.length ∧ ys.length ≤ k) ∨ (k < at'.length ∧ k < ys.length ∧ 3 ≤ k) ∨ (k < at'.length ∧ k < ys.length ∧ k < 3 ∧ L.length = 0) := by omega
      clear hall
      rcases hcs with h | ⟨h1, h2⟩ | ⟨h1, h2, h3⟩ | ⟨h1, h2, h3, h4⟩
      ·have d1 : decide ((k : Int) < at'.length) = false := by rw [decide_eq_false_iff_not]; omega
       go_wp2_with fail
       go_meet
       exact ⟨M, HM.out, hown, hy⟩
      ·have d1 : decide ((k : Int) < at'.length) = true := by rw [decide_eq_true_eq]; omega
       have d2 : decide ((k : Int) < ys.length) = false := by rw [decide_eq_false_iff_not]; omega
       go_wp2_with fail
       go_meet
       exact ⟨M, HM.out, hown, hy⟩
      ·have d1 : decide ((k : Int) < at'.length) = true := by rw [decide_eq_true_eq]; omega
       have d2 : decide ((k : Int) < ys.length) = true := by rw [decide_eq_true_eq]; omega
       have d3 : decide ((k : Int) < 3) = false := by rw [decide_eq_false_iff_not]; omega
       go_wp2_with fail
       go_meet
       exact ⟨M, HM.out, hown, hy⟩
      ·have d1 : decide ((k : Int) < at'.length) = true := by rw [decide_eq_true_eq]; omega
       have d2 : decide ((k : Int) < ys.length) = true := by rw [decide_eq_true_eq]; omega
       have d3 : decide ((k : Int) < 3) = true := by rw [decide_eq_true_eq]; omega
       have d4 : decide ((0 : Int) < L.length) = false := by rw [decide_eq_false_iff_not]; omega
       go_wp2_with fail
       go_meet
       exact ⟨M, HM.out, hown, hy⟩
   case rest =>
    clear hoz hy
    obtain ⟨M, hM, hoz, hy⟩ := hcut
    have HM := Lib.hid hM
    clear hM
    go_upto_if 87 with fail
    go_cut [13] (fun s13 wx => ∃ M' : List UInt8, s13 = .slice a4 M'.length c4 ∧ M'.length ≤ 45000 ∧ M'.length ≤ c4 ∧ Rd wx a4 (bs M') ∧ Ext no v7 wx)
    case first =>
     by_cases hc : cut.tmod 2 = 1
     ·have hc1 : (cut.tmod 2 == 1) = true := by rw [beq_iff_eq]; exact hc
      clear hc
      have hw2 : wrap64 (cut.tdiv 2) = cut.tdiv 2 := by have := Hc2.out; unfold wrap64; unfold I64ok at this; omega
      go_wp2_with fail
      refine (wiwithin_any (cut.tdiv 2) (L.length + 1) wc (by omega) (by omega) Hc2.out).mono ?_
      rintro e w3 ⟨rfl, rfl⟩
      obtain ⟨jj, hjj⟩ : ∃ jj : Nat, cut.tdiv 2 % ((L.length : Int) + 1) = jj := ⟨(cut.tdiv 2 % ((L.length : Int) + 1)).toNat, by have := Int.emod_nonneg (cut.tdiv 2) (show (L.length : Int) + 1 ≠ 0 by omega); omega⟩
      have hjl : jj ≤ L.length := by have := Int.emod_lt_of_pos (cut.tdiv 2) (show (0 : Int) < (L.length : Int) + 1 by omega); omega
      rw [hjj]
      have hnc := hoz.nc
      have cutj : ∀ w, (Instr.sliceAt 37 (.slice a4 L.length c4) none (some (.int .i64 (jj : Int))) none).run Tryz.prog w = .ok (.slice a4 jj c4) w := fun w => run_cut_h TBytes w a4 L.length c4 .i64 jj (by omega)
      clear hjj
      have hjM : (M.take jj).length = jj := by rw [List.length_take, HM.out]; omega
      have HjM := Lib.hid hjM
      clear hjM
      go_wp2_with fail
      go_meet
      exact ⟨M.take jj, by rw [HjM.out], by rw [HjM.out]; omega, by rw [HjM.out]; omega, by rw [← bs_take]; exact hoz.rd.take jj, hy⟩
     ·have hc1 : (cut.tmod 2 == 1) = false := by rw [beq_eq_false_iff_ne]; exact hc
      clear hc
      go_wp2_with fail
      go_meet
      exact ⟨M, by rw [HM.out], by rw [HM.out]; omega, by have := hoz.nc; have := HM.out; omega, hoz.rd, hy⟩
    case rest =>
     have hcm4 := hoz.cm
     clear hoz hy
     obtain ⟨M', rfl, hM3, hMc, hMd, hy⟩ := hcut
     obtain ⟨v9, h0⟩ : ∃ v, v = wc := ⟨_, rfl⟩
     subst h0
     have hx3 := hx7.comp hy
     clear hx7 hy
     have hraw := hrd.ext hx3 (fun _ _ h => h)
     go_wp2_with (at_builtin; refine wpList_append TBytes rfl rfl rfl (emptied4 v9 5) rfl (hMd.alloc _) (by simp) (bs_one _) (by unfold maxLen; omega) (by omega) (by simp) ?_)
     intro a5 c5 w4 happ
     obtain ⟨hown4, hx4⟩ := copied4 happ
     clear happ
     go_wp2_with (at_builtin; refine wpList_append TBytes rfl rfl rfl hown4 rfl (hraw.ext hx4 (fun _ _ h => h)) (by simp) (bs_one _) (by unfold maxLen; omega) (by omega) hx4.size ?_)
     intro a6 c6 w5 happ
     obtain ⟨hown5, hx5⟩ := appended4 hown4 hx4 happ
     clear happ hown4 hx4
     rw [← List.length_append] at hown5 ⊢
     have hXl : (M' ++ raw).length ≤ 45500 := by rw [List.length_append]; omega
     generalize M' ++ raw = X at *
     have hq : ∀ q ∈ [(⟨a4, M', c4⟩ : Piece), ⟨a6, X, c6⟩, ⟨ra, raw, rc⟩], Rd (w5.alloc (.cells #[.slice a4 M'.length c4, .slice a6 X.length c6, .slice ra raw.length rc] 37)) q.a (bs q.l) ∧ q.l.length ≤ 45500 ∧ q.l.length ≤ q.c ∧ q.c ≤ maxLen := by
      intro q hq
      simp only [List.mem_cons, List.not_mem_nil, or_false] at hq
      rcases hq with rfl | rfl | rfl
      ·exact ⟨(hMd.ext hx5 (fun _ _ h => h)).alloc _, by simp only; omega, hMc, hcm4⟩
      ·exact ⟨hown5.rd.alloc _, hXl, hown5.nc, hown5.cm⟩
      ·exact ⟨(hraw.ext hx5 (fun _ _ h => h)).alloc _, by simp only; omega, hrl, Hrcm.out⟩
     have hqd : Rd (w5.alloc (.cells #[.slice a4 M'.length c4, .slice a6 X.length c6, .slice ra raw.length rc] 37)) (some ⟨w5.heap.size, 0, none⟩) ([(⟨a4, M', c4⟩ : Piece), ⟨a6, X, c6⟩, ⟨ra, raw, rc⟩].map Piece.v) := Rd.lit w5 _ _ _
     have hxS : Ext no w (w5.alloc (.cells #[.slice a4 M'.length c4, .slice a6 X.length c6, .slice ra raw.length rc] 37)) := (hx3.comp hx5).comp (Ext.alloc no _ _)
     have hql : [(⟨a4, M', c4⟩ : Piece), ⟨a6, X, c6⟩, ⟨ra, raw, rc⟩].length = 3 := rfl
     have Hq := Lib.hid hq
     have Hql := Lib.hid hql
     clear hq hql hown5 hx3 hx5 hMd hraw
     generalize [(⟨a4, M', c4⟩ : Piece), ⟨a6, X, c6⟩, ⟨ra, raw, rc⟩] = qs at *
     go_wp2_with fail
     generalize w5.alloc (.cells #[.slice a4 M'.length c4, .slice a6 X.length c6, .slice ra raw.length rc] 37) = wS at *
     generalize (⟨w5.heap.size, 0, none⟩ : Addr) = sad at *
     go_loopw [17, 18, 19, 20, 21, 22, 23, 24] (fun s17 _ _ _ _ _ _ _ wr => ∃ j : Nat, j ≤ 3 ∧ s17 = .int .i64 j ∧ Ext no wS wr) (fun s17 _ _ _ _ _ _ _ _ => 3 - (intOf s17).toNat)
     case atStart => exact ⟨0, by omega, rfl, Ext.refl _ _⟩
     case round =>
      obtain ⟨j, hj, rfl, hxr⟩ := hrel
      by_cases hlt : j < 3
      rotate_left
      ·have e3 : decide ((j : Int) < 3) = false := decF (by omega)
       go_wp2_with fail
       go_ret
       exact ⟨rfl, hxS.comp hxr⟩
      have e3 : decide ((j : Int) < 3) = true := decT (by omega)
      have hjq : j < qs.length := by rw [Hql.out]; exact hlt
      have hcell := hxr.keeps (hqd.cell j (by simpa using hjq)) (fun h => h)
      rw [List.getElem_map, Piece.v] at hcell
      obtain ⟨q1, q2, q3, q4⟩ := Hq.out qs[j] (by simp)
      have hq1 := q1.ext hxr (fun _ _ h => h)
      clear q1
      generalize qs[j] = q at *
      obtain ⟨qa, Lq, qc⟩ := q
      simp only at hcell hq1 q2 q3 q4
      go_upto_if 112 with fail
      go_cut [18] (fun s18 wx => ∃ (xa : Option Addr) (X : List UInt8) (xc : Nat), s18 = .slice xa X.length xc ∧ X.length ≤ 46000 ∧ X.length ≤ xc ∧ xc ≤ maxLen ∧ Rd wx xa (bs X) ∧ Ext no wr wx)
      case first =>
       cases sum with
       | false =>
        go_wp2_with fail
        go_meet
        exact ⟨qa, Lq, qc, rfl, by omega, q3, q4, hq1, Ext.refl _ _⟩
       | true =>
        have hfl := frame_length Lq
        go_wp2_with fail
        refine (rframe_any wr qa qc Lq hq1 (by omega)).mono ?_
        rintro e wf ⟨af, cf, rfl, hof, hyf⟩
        go_wp2_with fail
        go_meet
        exact ⟨af, frame Lq, cf, rfl, by omega, hof.nc, hof.cm, hof.rd, hyf⟩
      case rest =>
       clear hq1 hcell q2 q3 q4
       obtain ⟨xa, X, xc, rfl, hXl, hXc, hXm, hXr, hy⟩ := hcut
       obtain ⟨u0, h0⟩ : ∃ v, v = wc := ⟨_, rfl⟩
       subst h0
       have hx := hxr.comp hy
       clear hy hxr
       go_wp2_with (at_builtin; refine wpList_append TBytes rfl rfl rfl (emptied4 u0 5) rfl (hXr.alloc _) (by simp) (bs_one _) (by unfold maxLen; omega) (by omega) (by simp) ?_)
       intro a7 c7 u1 happ
       obtain ⟨hob, hy⟩ := copied4 happ
       clear happ
       replace hx := hx.comp hy
       have hXr := hXr.ext hy (fun _ _ h => h)
       clear hy
       go_wp2_with fail
       refine (wparse_any u1 a7 c7 X hob.rd (by omega) hob.nc).mono ?_
       rintro e u2 ⟨k1, rfl, hKp, hy⟩
       have hP1 := hKp.now
       replace hx := hx.comp hy
       have hXr := hXr.ext hy (fun _ _ h => h)
       clear hKp hy hob
       obtain ⟨P, hP⟩ : ∃ P, P = parseMsg X := ⟨_, rfl⟩
       obtain ⟨E, hE⟩ : ∃ E, E = parseErr X := ⟨_, rfl⟩
       have HPF := Lib.hid (parse_fine X)
       have HMC := Lib.hid (fun e : parseErr X = 0 => msg_canon e)
       rw [← hP] at hP1 HPF HMC
       rw [← hE] at HMC
       rw [← hP, ← hE]
       have HP := Lib.hid hP
       have HE := Lib.hid hE
       clear hP hE
       rename_i hK
       dsimp only
       refine hK _ _ ?_
       clear hK
       refine wp_move (.tuple #[P.val k1, .int .i64 E]) rfl rfl (by rfl) ?_
       simp only [pz]
       refine wp_extract (vs := #[P.val k1, .int .i64 E]) (v := P.val k1) rfl rfl (by rfl) rfl ?_
       simp only [pz]
       refine wp_extract (vs := #[P.val k1, .int .i64 E]) (v := .int .i64 E) rfl rfl (by rfl) rfl ?_
       simp only [pz]
       refine wp_alloc_msg rfl rfl (fun hV => ?_)
       simp only [pz]
       have hxc := Ext.alloc no u2 (.cells (MsgR.zero.cells MsgA.zero).toArray 36)
       obtain ⟨p1, hp⟩ : ∃ p, p = u2.heap.size := ⟨_, rfl⟩
       rw [← hp] at hV ⊢
       refine wp_store_msg (m := P) (h := k1) rfl rfl (by rfl) (by rfl) hV rfl (fun hp1 hxs => ?_)
       simp only [pz]
       have hy : Ext no u2 ((u2.alloc (.cells (MsgR.zero.cells MsgA.zero).toArray 36)).setCells p1 0 (P.cells k1)) := hxc.trans hxs (fun k hk e => by have e : k = p1 := e; omega)
       replace hx := hx.comp hy
       have hXr := hXr.ext hy (fun _ _ h => h)
       have hP1 := hP1.no hy
       clear hp hV hxc hxs hy
       generalize (u2.alloc (.cells (MsgR.zero.cells MsgA.zero).toArray 36)).setCells p1 0 (P.cells k1) = u3 at *
       refine wp_assign (.int .i64 E) rfl rfl (by rfl) ?_
       simp only [pz]
       go_wp2_with fail
       refine (refparse_any u3 xa xc X hXr (by omega) hXc).mono ?_
       rintro e u4 ⟨k2, rfl, hKp, hy⟩
       have hP2 := hKp.now
       rw [← HP.out] at hP2 ⊢
       rw [← HE.out]
       replace hx := hx.comp hy
       have hXr := hXr.ext hy (fun _ _ h => h)
       have hP1 := hP1.no hy
       have hp1 := hp1.ext (msg_ne _ _) hy (fun h => h)
       clear hKp hy
       rename_i hK
       dsimp only
       refine hK _ _ ?_
       clear hK
       refine wp_move (.tuple #[P.val k2, .int .i64 E]) rfl rfl (by rfl) ?_
       simp only [pz]
       refine wp_extract (vs := #[P.val k2, .int .i64 E]) (v := P.val k2) rfl rfl (by rfl) rfl ?_
       simp only [pz]
       refine wp_extract (vs := #[P.val k2, .int .i64 E]) (v := .int .i64 E) rfl rfl (by rfl) rfl ?_
       simp only [pz]
       refine wp_alloc_rmsg rfl rfl (fun hV => ?_)
       simp only [pz]
       have hxc := Ext.alloc no u4 (.cells (MsgR.zero.cells MsgA.zero).toArray 42)
       obtain ⟨p2, hp⟩ : ∃ p, p = u4.heap.size := ⟨_, rfl⟩
       rw [← hp] at hV ⊢
       refine wp_store_rmsg (m := P) (h := k2) rfl rfl (by rfl) (by rfl) hV rfl (fun hp2 hxs => ?_)
       simp only [pz]
       have hy : Ext no u4 ((u4.alloc (.cells (MsgR.zero.cells MsgA.zero).toArray 42)).setCells p2 0 (P.cells k2)) := hxc.trans hxs (fun k hk e => by have e : k = p2 := e; omega)
       replace hx := hx.comp hy
       have hXr := hXr.ext hy (fun _ _ h => h)
       have hP1 := hP1.no hy
       have hp1 := hp1.ext (msg_ne _ _) hy (fun h => h)
       have hP2 := hP2.no hy
       clear hp hV hxc hxs hy
       generalize (u4.alloc (.cells (MsgR.zero.cells MsgA.zero).toArray 42)).setCells p2 0 (P.cells k2) = u5 at *
       refine wp_assign (.int .i64 E) rfl rfl (by rfl) ?_
       simp only [pz]
       go_upto_region 24 with fail
       go_cut [139] (fun s139 wx => s139 = .bool false ∧ Ext no u5 wx)
       case first =>
        refine wp_region_F [4, 6] (looks [(4, fun z => Ext no u5 z), (6, fun z => Ext no u5 z)]) (by kernel_rfl) ?_
        have hXd := Ext.drew no u5
        generalize u5.drew = wd at *
        have hT0 : ∀ k, looks [(4, fun z => Ext no u5 z), (6, fun z => Ext no u5 z)] k (wd) := looks_all ⟨hXd, hXd, trivial⟩
        refine wpF_tk 0 (v := ?_) rfl hT0 (by rfl) ?_ ?_
        rotate_left
        ·(intro wq; go_simp; try with_reducible rfl)
        simp only [pz]
        refine wpF_tk 1 (v := ?_) rfl hT0 (by rfl) ?_ ?_
        rotate_left
        ·(intro wq; go_simp; try with_reducible rfl)
        simp only [pz]
        refine wpF_tk 2 (v := ?_) rfl hT0 (by rfl) ?_ ?_
        rotate_left
        ·(intro wq; go_simp; try with_reducible rfl)
        simp only [pz]
        refine wpF_tk 3 (v := ?_) rfl hT0 (by rfl) ?_ ?_
        rotate_left
        ·(intro wq; go_simp; try with_reducible rfl)
        simp only [pz]
        refine wpF_lk 4 (v := P.val k1) rfl hT0 (by rfl) (fun w hS => by have hS : Ext no u5 w := hS; exact run_load_msg rfl (by rfl) (hp1.ext (msg_ne _ _) hS (fun h => h))) ?_
        simp only [pz]
        refine wpF_lk 6 (v := P.val k2) rfl hT0 (by rfl) (fun w hS => by have hS : Ext no u5 w := hS; exact run_load_rmsg rfl (by rfl) (hp2.ext (msg_ne _ _) hS (fun h => h))) ?_
        simp only [pz]
        refine wpF_exec 5 rfl (by kernel_rfl) (by rfl) ?_
        intro K hK
        go_simp
        refine (of_any wd P k1).mono ?_
        rintro e x1 ⟨rfl, hy⟩
        have hX1 : Ext no u5 x1 := (hXd).comp hy
        clear hy
        have hT1 : ∀ k, looks [(4, fun z => Ext no u5 z), (6, fun z => Ext no u5 z)] k (x1) := looks_all ⟨hX1, hX1, trivial⟩
        refine hK _ _ (looks [(4, fun z => Ext no u5 z), (6, fun z => Ext no u5 z)]) ⟨.inr (.inl (by kernel_rfl)), .inr (.inr (fun x h => h)), trivial⟩ hT1 ?_
        clear hK K
        try simp only [pz]
        refine wpF_exec 7 rfl (by kernel_rfl) (by rfl) ?_
        intro K hK
        go_simp
        refine (refsame_msg x1 P k1 k2 (hP1.no hX1) (hP2.no hX1) (short_of HPF.out.1) HPF.out.2).mono ?_
        rintro e x2 ⟨rfl, hy⟩
        have hX2 : Ext no u5 x2 := (hX1).comp hy
        clear hy
        have hT2 : ∀ k, looks [(4, fun z => Ext no u5 z), (6, fun z => Ext no u5 z)] k (x2) := looks_all ⟨hX2, hX2, trivial⟩
        refine hK _ _ (looks [(4, fun z => Ext no u5 z), (6, fun z => Ext no u5 z)]) ⟨.inr (.inl (by kernel_rfl)), .inr (.inl (by kernel_rfl)), trivial⟩ hT2 ?_
        clear hK K
        try simp only [pz]
        refine wpF_tk 8 (v := ?_) rfl hT2 (by rfl) ?_ ?_
        rotate_left
        ·(intro wq; go_simp; try with_reducible rfl)
        simp only [pz]
        refine wpF_tk 9 (v := ?_) rfl hT2 (by rfl) ?_ ?_
        rotate_left
        ·(intro wq; go_simp; try with_reducible rfl)
        simp only [pz]
        refine wpF_done (by kernel_rfl) ?_ _
        obtain ⟨wa, h0⟩ : ∃ v, v = x2 := ⟨_, rfl⟩
        have hXA : Ext no u5 wa := by rw [h0]; exact hX2
        rw [← h0]
        clear h0
        go_wp2_with fail
        go_meet
        exact ⟨rfl, hXA⟩
       case rest =>
        obtain ⟨rfl, hy⟩ := hcut
        obtain ⟨u6, h0⟩ : ∃ v, v = wc := ⟨_, rfl⟩
        subst h0
        replace hx := hx.comp hy
        have hXr := hXr.ext hy (fun _ _ h => h)
        have hP1 := hP1.no hy
        have hp1 := hp1.ext (msg_ne _ _) hy (fun h => h)
        clear hy hP2 hp2
        by_cases hE0 : E = 0
        ·have dE : (E == 0) = true := by rw [beq_iff_eq]; exact hE0
         go_upto_region 27 with fail
         refine wp_region_lit ?_
         refine wp_load_msg (m := P) (h := k1) rfl rfl (by rfl) hp1 ?_
         simp only [pz]
         go_wp2_with fail
         refine (wbytes_any u6 P k1 hP1 HPF.out.1.ok HPF.out.1.few).mono ?_
         rintro e u7 ⟨aw, cw, rfl, how, hy⟩
         rw [(HMC.out hE0).2] at how ⊢
         rw [(HMC.out hE0).1]
         replace hx := hx.comp hy
         have hXr := hXr.ext hy (fun _ _ h => h)
         clear hy
         rename_i hK
         dsimp only
         refine hK _ _ ?_
         clear hK
         go_upto_region 28 with fail
         refine wp_region_lit ?_
         refine wp_val (by rfl) (.slice aw X.length cw) (by go_simp) ?_
         simp only [pz]
         refine wp_val (by rfl) (.string (str X)) (run_str5 rfl (by rfl) rfl how.rd) ?_
         simp only [pz]
         refine wp_val (by rfl) (.slice xa X.length xc) (by go_simp) ?_
         simp only [pz]
         refine wp_val (by rfl) (.string (str X)) (run_str5 rfl (by rfl) rfl hXr) ?_
         simp only [pz]
         have hbs := beqStrT (rfl : X = X)
         refine wp_val (by rfl) (.bool false) (by go_simp) ?_
         simp only [pz]
         go_wp2_with fail
         go_roundw
         case rel => exact ⟨j + 1, by omega, by go_num, hx⟩
         case measure => simp [intOf]; omega
        ·have dE : (E == 0) = false := by rw [beq_eq_false_iff_ne]; exact hE0
         go_wp2_with fail
         go_roundw
         case rel => exact ⟨j + 1, by omega, by go_num, hx⟩
         case measure => simp [intOf]; omega
end Go.Proofs.YtddobhihjljcgaaGreat
