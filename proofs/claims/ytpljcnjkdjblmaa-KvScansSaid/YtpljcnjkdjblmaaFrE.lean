/- Rows of rows; the walk of the package frames: Scan. -/
import Derived.Test.YtpljcnjkdjblmaaFrC
namespace Go.Proofs.Ytpljcnjkdjblmaa
open Go.RowKit Go.Esc

theorem TRows : SlT Try.prog 75 37 (.slice none 0 0) 1 24 := ⟨Try.underlying75, by kernel_rfl, rfl, by decide⟩

/-- The rows at a. -/
def Lists (w : World) (a : Option Addr) (L : List (List UInt8)) : Prop := ∃ ps : List Part, ps.map Part.l = L ∧ Rd w a (ps.map Part.v) ∧ ∀ p ∈ ps, Rd w p.a (bs p.l)
theorem Lists.ext {w w' : World} {a : Option Addr} {L : List (List UInt8)} (h : Lists w a L) (hx : Ext no w w') : Lists w' a L := by
  obtain ⟨ps, h1, h2, h3⟩ := h
  exact ⟨ps, h1, h2.ext hx (fun _ _ h => h), fun p hp => (h3 p hp).ext hx (fun _ _ h => h)⟩

/-- .. they and what they hold lie in blocks from B on. -/
def ListsN (w : World) (B : Nat) (a : Option Addr) (L : List (List UInt8)) : Prop := ∃ ps : List Part, ps.map Part.l = L ∧ Rd w a (ps.map Part.v) ∧ (∀ p ∈ ps, Rd w p.a (bs p.l)) ∧ (∀ ad, a = some ad → B ≤ ad.block) ∧ ∀ p ∈ ps, p.l ≠ [] → ∀ ad, p.a = some ad → B ≤ ad.block
theorem ListsN.lists {w : World} {B : Nat} {a : Option Addr} {L : List (List UInt8)} (h : ListsN w B a L) : Lists w a L := by
  obtain ⟨ps, h1, h2, h3, _⟩ := h
  exact ⟨ps, h1, h2, h3⟩
theorem ListsN.ext {S : Nat → Prop} {w w' : World} {B : Nat} {a : Option Addr} {L : List (List UInt8)} (h : ListsN w B a L) (hx : Ext S w w') (hS : ∀ k, S k → k < B) : ListsN w' B a L := by
  obtain ⟨ps, h1, h2, h3, h4, h5⟩ := h
  refine ⟨ps, h1, h2.ext hx (fun ad ha hs => by have := h4 ad ha; have := hS _ hs; omega), fun p hp => ?_, h4, h5⟩
  by_cases he : p.l = []
  · rw [he]; exact Rd.nil _ _
  · exact (h3 p hp).ext hx (fun ad ha hs => by have := h5 p hp he ad ha; have := hS _ hs; omega)
theorem ListsN.mono {w : World} {B B' : Nat} {a : Option Addr} {L : List (List UInt8)} (h : ListsN w B a L) (hB : B' ≤ B) : ListsN w B' a L := by
  obtain ⟨ps, h1, h2, h3, h4, h5⟩ := h
  exact ⟨ps, h1, h2, h3, fun ad ha => Nat.le_trans hB (h4 ad ha), fun p hp he ad ha => Nat.le_trans hB (h5 p hp he ad ha)⟩
def ScanNew (w : World) (l : List UInt8) (e : Ending) (w' : World) : Prop := ∃ a' c', e = .returned (.tuple #[.slice a' (frScan l).1.length c', .int .i64 (frScan l).2]) ∧ ListsN w' w.heap.size a' (frScan l).1 ∧ Ext no w w'
/-- What a frScan leaves. -/
def ScanEnd (w : World) (l : List UInt8) (e : Ending) (w' : World) : Prop := ∃ a' c', e = .returned (.tuple #[.slice a' (frScan l).1.length c', .int .i64 (frScan l).2]) ∧ Lists w' a' (frScan l).1 ∧ Ext no w w'

/-- How a frScan stands. -/
structure Scans (w0 : World) (l : List UInt8) (ps : List Part) (n : Nat) (v : Option Addr) (cv : Nat) (wr : World) : Prop where
  le : n ≤ l.length
  own : Own wr w0.heap.size v 1 ps.length cv (ps.map Part.v)
  rows : ∀ p ∈ ps, Rd wr p.a (bs p.l)
  is : frScan l = (ps.map Part.l ++ (frScan (l.drop n)).1, n + (frScan (l.drop n)).2)
  few : ps.length * 8 ≤ n
  sep : ∀ p ∈ ps, p.l ≠ [] → ∀ ad, p.a = some ad → ¬ blk v ad.block
  new : ∀ p ∈ ps, p.l ≠ [] → ∀ ad, p.a = some ad → w0.heap.size ≤ ad.block
  ext : Ext no w0 wr

theorem Scans.start (w : World) (l : List UInt8) : Scans w l [] 0 none 0 w := ⟨Nat.zero_le _, Own.nil _ _ _, by simp, by simp, by simp, by simp, by simp, Ext.refl _ _⟩
theorem Scans.on {w0 wr w1 : World} {l : List UInt8} {ps : List Part} {n cv : Nat} {v : Option Addr} (h : Scans w0 l ps n v cv wr) (hx : Ext no wr w1) : Scans w0 l ps n v cv w1 :=
  ⟨h.le, h.own.ext hx (fun _ _ h => h), fun p hp => (h.rows p hp).ext hx (fun _ _ h => h), h.is, h.few, h.sep, h.new, h.ext.comp hx⟩
theorem Scans.stop {w0 wr : World} {l : List UInt8} {ps : List Part} {n cv : Nat} {v : Option Addr} (h : Scans w0 l ps n v cv wr) (hf : frameAt (l.drop n) = none) :
    ListsN wr w0.heap.size v (frScan l).1 ∧ ps.length = (frScan l).1.length ∧ n = (frScan l).2 := by
  have := h.is
  rw [frScan_none hf] at this
  rw [this]
  exact ⟨⟨ps, by simp, h.own.rd, h.rows, fun ad ha => (h.own.base ad ha).1, h.new⟩, by simp, by simp⟩
theorem Scans.step {w0 wr w1 : World} {l : List UInt8} {ps : List Part} {n cv : Nat} {v : Option Addr} (h : Scans w0 l ps n v cv wr) {p : Part} (hp : Rd wr p.a (bs p.l)) (hf : frameAt (l.drop n) = some p.l) (hnew : p.l ≠ [] → ∀ ad, p.a = some ad → ¬ blk v ad.block) (hfr : p.l ≠ [] → ∀ ad, p.a = some ad → w0.heap.size ≤ ad.block)
    {v' : Option Addr} {c' : Nat} {ti : TypeId} {fr : Nat × Nat} (happ : App (wr.alloc (.cells #[p.v] ti fr)) w1 w0.heap.size 1 v ps.length cv (ps.map Part.v) v' c' 1 [p.v]) :
    Scans w0 l (ps ++ [p]) (n + (8 + p.l.length)) v' c' w1 := by
  have hl := frameAt_len hf
  rw [List.length_drop] at hl
  have hle := h.le
  have hx : Ext (blk v) wr w1 := (Ext.alloc _ _ _).comp happ.ext
  have hb := h.own.below hx h.ext.size
  have hno : Ext no w0 w1 := Ext.ofBelow (h.ext.belowAll.trans hb) (Nat.le_refl _)
  have hall : ∀ q ∈ ps ++ [p], Rd wr q.a (bs q.l) ∧ (q.l ≠ [] → ∀ ad, q.a = some ad → ¬ blk v ad.block) := by
    intro q hq
    rw [List.mem_append, List.mem_singleton] at hq
    rcases hq with hq | rfl
    · exact ⟨h.rows q hq, h.sep q hq⟩
    · exact ⟨hp, hnew⟩
  refine ⟨by omega, ?_, ?_, ?_, ?_, ?_, ?_, hno⟩
  · have := happ.own
    rw [List.length_append, List.map_append]; exact this
  · intro q hq
    obtain ⟨h1, h2⟩ := hall q hq
    by_cases he : q.l = []
    · rw [he]; exact Rd.nil _ _
    · exact h1.ext hx (fun ad ha => h2 he ad ha)
  · rw [h.is, frScan_some hf, List.drop_drop]
    simp [Nat.add_assoc]
  · rw [List.length_append, List.length_singleton]; have := h.few; omega
  · intro q hq he ad ha hbv
    obtain ⟨h1, h2⟩ := hall q hq
    obtain ⟨ad', ha', hlt⟩ := h1.ne (by rw [bs_length]; exact List.length_pos_iff.2 he)
    rw [ha] at ha'
    cases ha'
    rcases happ.loc with ⟨e, _⟩ | hl2
    · rw [e] at hbv; exact h2 he ad ha hbv
    · obtain ⟨ad2, e2, hb2⟩ := hbv
      have := hl2 ad2 e2
      simp at this; omega
  · intro q hq he
    rw [List.mem_append, List.mem_singleton] at hq
    rcases hq with hq | rfl
    · exact h.new q hq he
    · exact hfr he

theorem number_at (w : World) (a : Option Addr) (m c : Nat) (l : List UInt8) (hm : m = l.length) (hrd : Rd w a (bs l)) (h4 : 4 ≤ l.length) (hl : l.length ≤ 1099511627776) :
    Calls Try.prog 58 #[.slice a m c] w fun e w' => e = .returned (.int .u32 (rd4 l)) ∧ ∃ n, w' = w.drewN n := by
  subst hm; exact fnum_any w a c l hrd h4 hl
theorem clone_at (w : World) (a : Option Addr) (m c : Nat) (l : List UInt8) (hm : m = l.length) (hrd : Rd w a (bs l)) (hl : l.length ≤ 70368744177664) :
    Calls Try.prog 60 #[.slice a m c] w fun e w' => ∃ a' c', e = .returned (.slice a' m c') ∧ Own w' w.heap.size a' 1 m c' (bs l) ∧ Ext no w w' := by
  subst hm; exact clone_any w a c l hrd hl

set_option maxHeartbeats 1000000 in
theorem fscan_new (w : World) (a : Option Addr) (c : Nat) (l : List UInt8) (hrd : Rd w a (bs l)) (hl : l.length ≤ 1099511627776) (hlc : l.length ≤ c) (hcm : c ≤ maxLen) :
    Calls Try.prog 44 #[.slice a l.length c] w (ScanNew w l) := by
  unfold maxLen at hcm
  go_enter Try.func44, Try.ntmps44
  go_wp2_with fail
  go_loopw [2, 3] (fun s2 s3 wr => ∃ (ps : List Part) (n : Nat) (v : Option Addr) (cv : Nat), s3 = .int .i64 n ∧ s2 = .slice v ps.length cv ∧ n ≤ l.length ∧ Scans w l ps n v cv wr) (fun _ s3 _ => l.length - (intOf s3).toNat)
  case atStart => exact ⟨[], 0, none, 0, rfl, rfl, Nat.zero_le _, Scans.start w l⟩
  case round =>
    obtain ⟨ps, n, v, cv, rfl, rfl, hn, hS⟩ := hrel
    have cutn : ∀ w, (Instr.sliceAt 37 (.slice a l.length c) (some (.int .i64 (n : Int))) none none).run Try.prog w = .ok (.slice (cutAt a c n 1) (l.length - n) (c - n)) w := fun w => run_cut_l TBytes w a l.length c .i64 n hn
    obtain ⟨r, hr⟩ : ∃ r, r = l.drop n := ⟨_, rfl⟩
    have hrl : l.length - n = r.length := by rw [hr, List.length_drop]
    have hrd1 : Rd wr (cutAt a c n 1) (bs r) := by
      have := (hrd.ext hS.ext (fun _ _ h => h)).cutB c n hlc
      rw [← hr] at this; exact this
    rw [hrl] at cutn
    have hrl' : r.length ≤ 1099511627776 := by omega
    have hrc : r.length ≤ c - n := by omega
    have Hr := Lib.hid hr
    have Hrl := Lib.hid hrl
    clear hr hrl
    generalize cutAt a c n 1 = ar at *
    by_cases h8 : r.length < 8
    · have Hst := Lib.hid (hS.stop (by rw [← Hr.out]; unfold frameAt; rw [if_neg (by omega)]))
      go_wp2_with fail
      go_ret2
      obtain ⟨h1, h2, h3⟩ := Hst.out
      exact ⟨v, cv, by rw [← h2, ← h3]; rfl, h1, hS.ext⟩
    have hn4 := rd4_lt r
    go_wp2_with fail
    refine (number_at wr ar r.length (c - n) r rfl hrd1 (by omega) hrl').mono ?_
    rintro e w1 ⟨rfl, nq, rfl⟩
    have hS1 := hS.on (Ext.drewN no wr nq)
    have hrd2 := hrd1.drewN nq
    clear hS hrd1
    generalize wr.drewN nq = w1 at *
    by_cases h1 : 4194304 < rd4 r
    · have Hst := Lib.hid (hS1.stop (by rw [← Hr.out]; unfold frameAt; rw [if_neg (by omega)]))
      have hd1 : decide ((4194304 : Int) < (rd4 r : Int)) = true := by rw [decide_eq_true_eq]; omega
      go_wp2_with fail
      go_ret2
      obtain ⟨h1, h2, h3⟩ := Hst.out
      exact ⟨v, cv, by rw [← h2, ← h3]; rfl, h1, hS1.ext⟩
    have hd1 : decide ((4194304 : Int) < (rd4 r : Int)) = false := by rw [decide_eq_false_iff_not]; omega
    by_cases h2 : r.length - 8 < rd4 r
    · have Hst := Lib.hid (hS1.stop (by rw [← Hr.out]; unfold frameAt; rw [if_neg (by omega)]))
      have hd2 : decide ((r.length : Int) - 8 < (rd4 r : Int)) = true := by rw [decide_eq_true_eq]; omega
      go_wp2_with fail
      go_ret2
      obtain ⟨h1, h2, h3⟩ := Hst.out
      exact ⟨v, cv, by rw [← h2, ← h3]; rfl, h1, hS1.ext⟩
    have hd2 : decide ((r.length : Int) - 8 < (rd4 r : Int)) = false := by rw [decide_eq_false_iff_not]; omega
    have cut8 : ∀ w, (Instr.sliceAt 37 (.slice ar r.length (c - n)) (some (.int .i64 8)) (some (.int .u32 (8 + (rd4 r : Int)))) none).run Try.prog w = .ok (.slice (cutAt ar (c - n) 8 1) (8 + rd4 r - 8) (c - n - 8)) w := fun w => run_cut_lh TBytes w ar r.length (c - n) .i64 .u32 8 (8 + rd4 r) (by omega) (by omega)
    have cut4 : ∀ w, (Instr.sliceAt 37 (.slice ar r.length (c - n)) (some (.int .i64 4)) none none).run Try.prog w = .ok (.slice (cutAt ar (c - n) 4 1) (r.length - 4) (c - n - 4)) w := fun w => run_cut_l TBytes w ar r.length (c - n) .i64 4 (by omega)
    have hrest : Rd w1 (cutAt ar (c - n) 8 1) (bs ((r.drop 8).take (rd4 r))) := by
      have := (hrd2.cutB (c - n) 8 hrc).take (rd4 r)
      rw [bs_take] at this; exact this
    have hsum : Rd w1 (cutAt ar (c - n) 4 1) (bs (r.drop 4)) := hrd2.cutB (c - n) 4 hrc
    rw [show 8 + rd4 r - 8 = rd4 r from by omega] at cut8
    have hl8 : ((r.drop 8).take (rd4 r)).length ≤ 1099511627776 := by simp; omega
    have Hm8 := Lib.hid (show rd4 r = ((r.drop 8).take (rd4 r)).length by simp; omega)
    have hl4 : (r.drop 4).length ≤ 1099511627776 := by simp; omega
    have hl44 : 4 ≤ (r.drop 4).length := by simp; omega
    have hcl := crc_lt ((r.drop 8).take (rd4 r))
    have hsl := rd4_lt (r.drop 4)
    go_upto_region 8 with fail
    generalize cutAt ar (c - n) 8 1 = a8 at *
    generalize cutAt ar (c - n) 4 1 = a4 at *
    go_quiet (first | (go_at_call 58; exact fnum_q _ _ _ _ _ (r.drop 4) (by simp) hsum hl44 hl4) | (go_at_call 59; exact fcrc_q _ _ _ _ _ ((r.drop 8).take (rd4 r)) Hm8.out hrest hl8))
    have hS2 := hS1.on (Ext.drewN no w1 nq)
    have hrest2 := hrest.drewN nq
    clear hS1 hrd2 hrest hsum
    generalize w1.drewN nq = w2 at *
    obtain ⟨b, hb⟩ : ∃ b, b = (r.drop 8).take (rd4 r) := ⟨_, rfl⟩
    rw [← hb] at hrest2 hl8 Hm8 ⊢
    have Hb := Lib.hid hb
    clear hb
    by_cases hq : crc b = rd4 (r.drop 4)
    · have hbq : ((crc b : Int) != (rd4 (r.drop 4) : Int)) = false := by simp [hq]
      have Hf := Lib.hid (show frameAt (l.drop n) = some b by rw [← Hr.out]; unfold frameAt; rw [← Hb.out, if_pos ⟨by omega, by omega, by omega, hq⟩])
      have hbl : b.length ≤ 4194304 := by have := Hm8.out; omega
      have hbr : n + (8 + b.length) ≤ l.length := by have := frameAt_len Hf.out; rw [List.length_drop] at this; omega
      clear hq hd1 hd2
      go_wp2_with fail
      refine (clone_at w2 a8 (rd4 r) (c - n - 8) b Hm8.out hrest2 (by omega)).mono ?_
      rintro e w3 ⟨a9, c9, rfl, hown9, hx9⟩
      rw [Hm8.out] at hown9 ⊢
      have hS3 := hS2.on hx9
      have hs3 := hx9.size
      have hs2 := hS2.ext.size
      have hvlt : ∀ ad, v = some ad → ad.block < w2.heap.size := fun ad h => (hS2.own.base ad h).2.1
      have hfew := hS2.few
      have hrd9 := hown9.rd
      have hfr9 : b ≠ [] → ∀ ad, a9 = some ad → w.heap.size ≤ ad.block := fun _ ad h => by have := (hown9.base ad h).1; omega
      have hnew : b ≠ [] → ∀ ad, a9 = some ad → ¬ blk v ad.block := by
        rintro _ ad ha ⟨ad2, e2, hb2⟩
        have := (hown9.base ad ha).1
        have := hvlt ad2 e2
        omega
      have hone := Rd.one w3 (.slice a9 b.length c9) 37 (0, 0)
      clear hS2 hown9 hx9 hrest2
      go_wp2_with (at_builtin; refine wpList_append TRows rfl rfl rfl (hS3.own.alloc _) rfl hone (by simp) ?c2 ?c3 ?c4 ?c5 ?_)
      case c2 => intro u hu; simp at hu; subst hu; rfl
      case c3 => unfold maxLen; omega
      case c4 => omega
      case c5 => simp; omega
      intro v' c' w4 happ
      have hS4 := hS3.step (p := ⟨a9, b, c9⟩) hrd9 Hf.out hnew hfr9 happ
      clear happ hS3
      go_wp2_with fail
      go_roundw
      case rel => exact ⟨ps ++ [⟨a9, b, c9⟩], n + (8 + b.length), v', c', by go_num, by simp, hbr, hS4⟩
      case measure => simp [intOf]; omega
    · have hbq : ((crc b : Int) != (rd4 (r.drop 4) : Int)) = true := by simp; omega
      have Hst := Lib.hid (hS2.stop (by rw [← Hr.out]; unfold frameAt; rw [← Hb.out, if_neg (fun h => hq h.2.2.2)]))
      clear hq
      go_wp2_with fail
      go_ret2
      obtain ⟨h1, h2, h3⟩ := Hst.out
      exact ⟨v, cv, by rw [← h2, ← h3]; rfl, h1, hS2.ext⟩
theorem fscan_any (w : World) (a : Option Addr) (c : Nat) (l : List UInt8) (hrd : Rd w a (bs l)) (hl : l.length ≤ 1099511627776) (hlc : l.length ≤ c) (hcm : c ≤ maxLen) :
    Calls Try.prog 44 #[.slice a l.length c] w (ScanEnd w l) :=
  (fscan_new w a c l hrd hl hlc hcm).mono fun _ _ ⟨a', c', h1, h2, h3⟩ => ⟨a', c', h1, h2.lists, h3⟩
end Go.Proofs.Ytpljcnjkdjblmaa
