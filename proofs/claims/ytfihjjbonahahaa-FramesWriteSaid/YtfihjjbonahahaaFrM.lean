/- Strings compared; the law's comparing of rows. -/
import Derived.Test.YtfihjjbonahahaaFrL
namespace Go.Proofs.Ytfihjjbonahahaa
open Go.RowKit Go.Esc

theorem convStr (w : World) (a : Option Addr) (n c : Nat) (l : List UInt8) (hn : n = l.length) (h : Rd w a (bs l)) : (convert 23 9 (.slice a n c)).run Try.prog w = .ok (.string (str l)) w := by
  subst hn; exact run_string_of Try.underlying23 Try.underlying5 Try.underlying9 h
theorem toList_str (l : List UInt8) : (str l).toList = l := by rw [ByteArray.toList_eq]; rfl
theorem beqStrT {x y : List UInt8} (h : x = y) : ((str x).toList == (str y).toList) = true := by rw [toList_str, toList_str, beq_iff_eq]; exact h
theorem beqStrF {x y : List UInt8} (h : x ≠ y) : ((str x).toList == (str y).toList) = false := by rw [toList_str, toList_str, beq_eq_false_iff_ne]; exact h

theorem takes_step {l m : List (List UInt8)} {k : Nat} (h : l.take k = m.take k) (hl : k < l.length) (hm : k < m.length) (he : l[k] = m[k]) : l.take (k + 1) = m.take (k + 1) := by
  rw [List.take_succ_eq_append_getElem hl, List.take_succ_eq_append_getElem hm, h, he]

set_option maxHeartbeats 1000000 in
theorem rows_any (w : World) (xa ya : Option Addr) (xc yc n m : Nat) (L M : List (List UInt8)) (hn : n = L.length) (hm : m = M.length) (hx : Lists w xa L) (hy : Lists w ya M) (hl : L.length ≤ 1099511627776) (hml : M.length ≤ 1099511627776) :
    Calls Try.prog 21 #[.slice xa n xc, .slice ya m yc] w fun e w' => e = .returned (.bool (decide (L = M))) ∧ Ext no w w' := by
  obtain ⟨ps, rfl, hpx, hpr⟩ := hx
  obtain ⟨qs, rfl, hqx, hqr⟩ := hy
  rw [List.length_map] at hn hm hl hml
  subst hn hm
  have Hpr := Lib.hid hpr
  have Hqr := Lib.hid hqr
  clear hpr hqr
  by_cases hlen : ps.length = qs.length
  · have Hlen := Lib.hid hlen
    have hb : ((ps.length : Int) != (qs.length : Int)) = false := by simp; omega
    clear hlen
    go_enter Try.func21, Try.ntmps21
    go_wp2_with fail
    go_loopw [5] (fun s5 wr => ∃ k : Nat, k ≤ ps.length ∧ s5 = .int .i64 k ∧ (ps.map Part.l).take k = (qs.map Part.l).take k ∧ Ext no w wr) (fun s5 _ => ps.length - (intOf s5).toNat)
    case atStart => exact ⟨0, Nat.zero_le _, rfl, rfl, Ext.refl _ _⟩
    case round =>
      obtain ⟨k, hk, rfl, htk, hxr⟩ := hrel
      have Htk := Lib.hid htk
      clear htk
      by_cases hlt : k < ps.length
      · have hlm : k < qs.length := by have := Hlen.out; omega
        obtain ⟨ax, rfl, _⟩ := hpx.ne (by simp; omega)
        obtain ⟨ay, rfl, _⟩ := hqx.ne (by simp; omega)
        have hcx := hxr.keeps (hpx.cell k (by simpa using hlt)) (fun h => h)
        have hcy := hxr.keeps (hqx.cell k (by simpa using hlm)) (fun h => h)
        rw [List.getElem_map, Part.v] at hcx hcy
        have hrx := (Hpr.out ps[k] (by simp)).ext hxr (fun _ _ h => h)
        have hry := (Hqr.out qs[k] (by simp)).ext hxr (fun _ _ h => h)
        have Hsx := Lib.hid (show ps[k].l = qs[k].l → (ps.map Part.l).take (k + 1) = (qs.map Part.l).take (k + 1) from fun he => takes_step Htk.out (by simpa using hlt) (by simpa using hlm) (by simpa using he))
        have Hnx := Lib.hid (show ps[k].l ≠ qs[k].l → ps.map Part.l ≠ qs.map Part.l from fun hne he => hne (by
          have : (ps.map Part.l)[k]? = (qs.map Part.l)[k]? := by rw [he]
          simpa [List.getElem?_eq_getElem hlt, List.getElem?_eq_getElem hlm] using this))
        generalize ps[k] = p at *
        generalize qs[k] = q at *
        have cx : ∀ m, (convert 23 9 (.slice p.a p.l.length p.c)).run Try.prog (wr.drewN m) = .ok (.string (str p.l)) (wr.drewN m) := fun m => convStr _ _ _ _ _ rfl (hrx.drewN m)
        have cy : ∀ m, (convert 23 9 (.slice q.a q.l.length q.c)).run Try.prog (wr.drewN m) = .ok (.string (str q.l)) (wr.drewN m) := fun m => convStr _ _ _ _ _ rfl (hry.drewN m)
        by_cases he : p.l = q.l
        · have Hst := Lib.hid (Hsx.out he)
          have hbe := beqStrT he
          clear he
          go_upto_region 6 with fail
          go_quiet (fail)
          go_wp2_with fail
          go_roundw
          case rel => exact ⟨k + 1, by omega, by go_num, Hst.out, hxr.comp (Ext.drewN no _ _)⟩
          case measure => simp [intOf]; omega
        · have Hne := Lib.hid (Hnx.out he)
          have hbe := beqStrF he
          clear he
          go_upto_region 6 with fail
          go_quiet (fail)
          go_wp2_with fail
          go_ret
          exact ⟨by rw [decide_eq_false Hne.out]; rfl, hxr.comp (Ext.drewN no _ _)⟩
      · have Heq := Lib.hid (show ps.map Part.l = qs.map Part.l by
          have := Htk.out
          rwa [List.take_of_length_le (by simp; omega), List.take_of_length_le (by have := Hlen.out; simp; omega)] at this)
        go_wp2_with fail
        go_ret
        exact ⟨by rw [decide_eq_true Heq.out]; rfl, hxr⟩
  · have hb : ((ps.length : Int) != (qs.length : Int)) = true := by simp; omega
    have Hne := Lib.hid (show ps.map Part.l ≠ qs.map Part.l from fun h => hlen (by have := congrArg List.length h; simpa using this))
    clear hlen
    go_enter Try.func21, Try.ntmps21
    go_wp2_with fail
    go_ret
    exact ⟨by rw [decide_eq_false Hne.out]; rfl, Ext.refl _ _⟩
end Go.Proofs.Ytfihjjbonahahaa
