/- The laws of chapter 4: what they share. -/
import Derived.Test.YtbmkmbankflbpaaJoD
import Derived.Test.YtbmkmbankflbpaaJoE
namespace Go.Esc
theorem new_opens (room : Nat) : (DS.new room).opens = (DS.new room, 0, [], []) := by
  have h : scan [] = ([], 0) := scan_none (by unfold frameAt; rw [if_neg (by simp)])
  unfold DS.opens
  rw [if_neg (by simp [DS.new]), if_neg (by simp [DS.new])]
  simp [DS.new, h]
end Go.Esc
namespace Go.Proofs.Ytbmkmbankflbpaa
open Go.RowKit Go.Esc
set_option linter.unusedVariables false

theorem takes_step {l m : List (List UInt8)} {k : Nat} (h : l.take k = m.take k) (hl : k < l.length) (hm : k < m.length) (he : l[k] = m[k]) : l.take (k + 1) = m.take (k + 1) := by
  rw [List.take_succ_eq_append_getElem hl, List.take_succ_eq_append_getElem hm, h, he]

set_option maxHeartbeats 1000000 in
theorem rows_q (w : World) (xa ya : Option Addr) (xc yc n m : Nat) (L M : List (List UInt8)) (hn : n = L.length) (hm : m = M.length) (hx : Lists w xa L) (hy : Lists w ya M) (hl : L.length ≤ 1099511627776) (hml : M.length ≤ 1099511627776) :
    Calls Try.prog 18 #[.slice xa n xc, .slice ya m yc] w fun e w' => e = .returned (.bool (decide (L = M))) ∧ ∃ n, w' = w.drewN n := by
  obtain ⟨ps, rfl, hpx, hpr⟩ := hx
  obtain ⟨qs, rfl, hqx, hqr⟩ := hy
  rw [List.length_map] at hn hm hl hml
  subst hn hm
  have Hpr := Lib.hid hpr
  have Hqr := Lib.hid hqr
  clear hpr hqr
  by_cases hlen : ps.length = qs.length
  · have Hlen := Lib.hid hlen
    have hb : ((ps.length : Int) != (qs.length : Int)) = false := by simp; omega
    clear hlen
    go_enter Try.func18, Try.ntmps18
    go_wp2_with fail
    go_loopw [5] (fun s5 wr => ∃ k : Nat, k ≤ ps.length ∧ s5 = .int .i64 k ∧ (ps.map Part.l).take k = (qs.map Part.l).take k ∧ ∃ n, wr = w.drewN n) (fun s5 _ => ps.length - (intOf s5).toNat)
    case atStart => exact ⟨0, Nat.zero_le _, rfl, rfl, 0, rfl⟩
    case round =>
      obtain ⟨k, hk, rfl, htk, nr, hnr⟩ := hrel
      have hxr : Ext no w wr := by rw [hnr]; exact Ext.drewN no w nr
      have Hnr := Lib.hid hnr
      clear hnr
      have Htk := Lib.hid htk
      clear htk
      by_cases hlt : k < ps.length
      · have hlm : k < qs.length := by have := Hlen.out; omega
        obtain ⟨ax, rfl, _⟩ := hpx.ne (by simp; omega)
        obtain ⟨ay, rfl, _⟩ := hqx.ne (by simp; omega)
        have hcx := hxr.keeps (hpx.cell k (by simpa using hlt)) (fun h => h)
        have hcy := hxr.keeps (hqx.cell k (by simpa using hlm)) (fun h => h)
        rw [List.getElem_map, Part.v] at hcx hcy
        have hrx := (Hpr.out ps[k] (by simp)).ext hxr (fun _ _ h => h)
        have hry := (Hqr.out qs[k] (by simp)).ext hxr (fun _ _ h => h)
        have Hsx := Lib.hid (show ps[k].l = qs[k].l → (ps.map Part.l).take (k + 1) = (qs.map Part.l).take (k + 1) from fun he => takes_step Htk.out (by simpa using hlt) (by simpa using hlm) (by simpa using he))
        have Hnx := Lib.hid (show ps[k].l ≠ qs[k].l → ps.map Part.l ≠ qs.map Part.l from fun hne he => hne (by
          have : (ps.map Part.l)[k]? = (qs.map Part.l)[k]? := by rw [he]
          simpa [List.getElem?_eq_getElem hlt, List.getElem?_eq_getElem hlm] using this))
        generalize ps[k] = p at *
        generalize qs[k] = q at *
        have cx : ∀ m, (convert 22 9 (.slice p.a p.l.length p.c)).run Try.prog (wr.drewN m) = .ok (.string (str p.l)) (wr.drewN m) := fun m => convStr _ _ _ _ _ rfl (hrx.drewN m)
        have cy : ∀ m, (convert 22 9 (.slice q.a q.l.length q.c)).run Try.prog (wr.drewN m) = .ok (.string (str q.l)) (wr.drewN m) := fun m => convStr _ _ _ _ _ rfl (hry.drewN m)
        by_cases he : p.l = q.l
        · have Hst := Lib.hid (Hsx.out he)
          have hbe := beqStrT he
          clear he
          go_upto_region 6 with fail
          go_quiet (fail)
          go_wp2_with fail
          go_roundw
          case rel => exact ⟨k + 1, by omega, by go_num, Hst.out, nr + nq, by rw [Hnr.out, World.drewN_drewN]⟩
          case measure => simp [intOf]; omega
        · have Hne := Lib.hid (Hnx.out he)
          have hbe := beqStrF he
          clear he
          go_upto_region 6 with fail
          go_quiet (fail)
          go_wp2_with fail
          go_ret
          exact ⟨by rw [decide_eq_false Hne.out]; rfl, nr + nq, by rw [Hnr.out, World.drewN_drewN]⟩
      · have Heq := Lib.hid (show ps.map Part.l = qs.map Part.l by
          have := Htk.out
          rwa [List.take_of_length_le (by simp; omega), List.take_of_length_le (by have := Hlen.out; simp; omega)] at this)
        go_wp2_with fail
        go_ret
        exact ⟨by rw [decide_eq_true Heq.out]; rfl, nr, Hnr.out⟩
  · have hb : ((ps.length : Int) != (qs.length : Int)) = true := by simp; omega
    have Hne := Lib.hid (show ps.map Part.l ≠ qs.map Part.l from fun h => hlen (by have := congrArg List.length h; simpa using this))
    clear hlen
    go_enter Try.func18, Try.ntmps18
    go_wp2_with fail
    go_ret
    exact ⟨by rw [decide_eq_false Hne.out]; rfl, 0, rfl⟩

set_option maxHeartbeats 400000 in
theorem within_any (a n : Int) (w : World) (h1 : 0 < n) (h2 : n ≤ 4611686018427387904) (h3 : I64ok a) :
    Calls Try.prog 20 #[.int .i64 a, .int .i64 n] w fun e w' => e = .returned (.int .i64 (a % n)) ∧ w = w' := by
  obtain ⟨h3, h4⟩ := h3
  have hb := Int.tmod_lt_of_pos a h1
  have hb' : -n ≤ a.tmod n := by
    have := tmod_pos a n h1
    have e1 := Int.emod_nonneg a (show n ≠ 0 by omega)
    have e2 := Int.emod_lt_of_pos a h1
    generalize a % n = q at *
    split at this <;> omega
  have he := tmod_pos a n h1
  have He := Lib.hid he
  clear he
  by_cases hn : a.tmod n < 0
  · go_enter Try.func20, Try.ntmps20
    go_wp2
    go_ret
    exact ⟨by rw [He.out, if_pos (by omega)]; rfl, rfl⟩
  · go_enter Try.func20, Try.ntmps20
    go_wp2
    go_ret
    exact ⟨by rw [He.out, if_neg (by omega)]; rfl, rfl⟩


/-- A new disk that is opened. -/
theorem ext_new {w w1 w2 : World} {g : Nat} (h1 : Ext no w w1) (hg : w.heap.size ≤ g) (h2 : Ext (just g) w1 w2) : Ext no w w2 := h1.trans h2 (fun i hi h => by simp only [Esc.just] at h; omega)

set_option maxHeartbeats 1000000 in
theorem known_any (w : World) : Calls Try.prog 8 #[] w fun e w' => e = .returned (.bool true) ∧ Ext no w w' := by
  go_enter Try.func8, Try.ntmps8
  go_wp2_with fail
  refine (newdisk_any w 1000 (by omega) (by omega) (fun _ => False)).mono ?_
  rintro e w1 ⟨g, rfl, hD, hg, hx1⟩
  go_wp2_with fail
  refine (open_any w1 g _ _ hD (fun _ h => h.elim) (DS.new_ok 1000 (by omega))).mono ?_
  rintro e w2 ⟨J, sa, sc, la, lc, rfl, hsa, hla, hx2, hend⟩
  rw [new_opens] at hsa hla hend ⊢
  simp only at hsa hla hend ⊢
  rcases hend with ⟨h0, _⟩ | ⟨_, j, rfl, hj1, hj2, hJ, hD2⟩
  · exact absurd rfl h0
  have hx := ext_new hx1 hg hx2
  clear hsa hla hx1 hx2 hD hD2
  go_wp2_with fail
  refine (count_any w2 g j 0 hJ).mono ?_
  rintro e w3 ⟨rfl, rfl⟩
  go_wp2_with fail
  go_ret
  exact ⟨rfl, hx⟩
end Go.Proofs.Ytbmkmbankflbpaa
