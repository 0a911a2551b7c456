/- The walk of the law DiskStops. -/
import Derived.Test.YtfihjjbonahahaaDkL
import Derived.Test.YtfihjjbonahahaaOpen
namespace Go.Proofs.Ytfihjjbonahahaa
open Go.RowKit Go.Esc
set_option linter.unusedVariables false

/-- A disk that is to stop at its n-th operation, m of which were done. -/
structure Run (s : DS) (n m : Nat) : Prop where
  ok : s.ok
  room : s.room = 60
  log : s.log.length ≤ m
  snap : s.snap.length ≤ 2
  at' : (m < n ∧ s.dead = false ∧ s.left = n - m ∧ s.done = m) ∨ (m = n ∧ s.dead = true ∧ s.left = 0 ∧ s.done = n - 1)

/-- What an operation that is taken leaves. -/
structure Took (s t : DS) (e : Nat) : Prop where
  ok : t.ok
  room : t.room = s.room
  log : t.log.length ≤ s.log.length + 1
  snap : t.snap.length ≤ 2
  end' : (s.left = 1 ∧ e = 18 ∧ t.dead = true ∧ t.left = 0 ∧ t.done = s.done) ∨ (s.left ≠ 1 ∧ e = 0 ∧ t.dead = false ∧ t.left = s.left - 1 ∧ t.done = s.done + 1)

theorem spend_ends (s : DS) (hd : s.dead = false) : (s.left = 1 ∧ s.spend.dead = true ∧ s.spend.left = 0 ∧ s.spend.done = s.done) ∨ (s.left ≠ 1 ∧ s.spend.dead = false ∧ s.spend.left = s.left - 1 ∧ s.spend.done = s.done + 1) := by
  unfold DS.spend
  by_cases h : s.left = 1
  · exact .inl (by simp [h])
  · exact .inr (by simp [h, hd])
theorem took_append {s : DS} {n m : Nat} (h : Run s n m) (hm : m < n) (hn : n ≤ 12) (b : List UInt8) (hb : b.length = 1) : Took s (s.append b).1 (s.append b).2 := by
  have hd : s.dead = false := by rcases h.at' with ⟨_, h1, _⟩ | ⟨h1, _⟩; exact h1; omega
  have hdn : s.done ≤ 12 := by rcases h.at' with ⟨_, _, _, h1⟩ | ⟨_, _, _, h1⟩ <;> omega
  have ho := (DS.ok_append h.ok (by omega) b).1
  have hl := h.log
  have hs := h.snap
  obtain ⟨e1, e2, e3, e4, e5⟩ := s.spend_log
  have he : s.append b = ({ s.spend with log := s.log ++ b }, if s.left = 1 then 18 else 0) := by unfold DS.append; rw [if_neg (by rw [hd]; simp), if_neg (by rw [h.room]; omega)]
  rw [he] at ho ⊢
  refine ⟨ho, e3, by simp [hb], by simp only [e2]; exact hs, ?_⟩
  rcases spend_ends s hd with ⟨h1, h2⟩ | ⟨h1, h2⟩
  · exact .inl ⟨h1, by simp [h1], h2⟩
  · exact .inr ⟨h1, by simp [h1], h2⟩
theorem took_sync {s : DS} {n m : Nat} (h : Run s n m) (hm : m < n) (hn : n ≤ 12) : Took s s.sync.1 s.sync.2 := by
  have hd : s.dead = false := by rcases h.at' with ⟨_, h1, _⟩ | ⟨h1, _⟩; exact h1; omega
  have hdn : s.done ≤ 12 := by rcases h.at' with ⟨_, _, _, h1⟩ | ⟨_, _, _, h1⟩ <;> omega
  have ho := (DS.ok_sync h.ok (by omega)).1
  have hs := h.snap
  obtain ⟨e1, e2, e3, e4, e5⟩ := s.spend_log
  have hse := spend_ends s hd
  unfold DS.sync at ho ⊢
  rw [if_neg (by rw [hd]; simp)] at ho ⊢
  by_cases h1 : s.left = 1
  · rw [if_pos h1] at ho ⊢
    refine ⟨ho, e3, by simp only [e1]; omega, by simp only [e2]; exact hs, .inl ?_⟩
    rcases hse with h2 | h2
    · exact ⟨h1, rfl, h2.2⟩
    · exact absurd h1 h2.1
  · rw [if_neg h1] at ho ⊢
    refine ⟨ho, e3, by simp only [e1]; omega, by simp only [e2]; exact hs, .inr ?_⟩
    rcases hse with h2 | h2
    · exact absurd h2.1 h1
    · exact ⟨h1, rfl, h2.2⟩
theorem took_swap {s : DS} {n m : Nat} (h : Run s n m) (hm : m < n) (hn : n ≤ 12) (b : List UInt8) (hb : b.length = 2) : Took s (s.swap b).1 (s.swap b).2 := by
  have hd : s.dead = false := by rcases h.at' with ⟨_, h1, _⟩ | ⟨h1, _⟩; exact h1; omega
  have hdn : s.done ≤ 12 := by rcases h.at' with ⟨_, _, _, h1⟩ | ⟨_, _, _, h1⟩ <;> omega
  have ho := (DS.ok_swap h.ok (by omega) b).1
  have hs := h.snap
  obtain ⟨e1, e2, e3, e4, e5⟩ := s.spend_log
  have he : s.swap b = (if s.left ≠ 1 ∨ s.odd = 0 then { s.spend with snap := b, log := [], synced := 0 } else s.spend, if s.left = 1 then 18 else 0) := by unfold DS.swap; rw [if_neg (by rw [hd]; simp), if_neg (by rw [h.room]; omega)]
  rw [he] at ho ⊢
  have hse := spend_ends s hd
  refine ⟨ho, ?_, ?_, ?_, ?_⟩
  · simp only; split <;> exact e3
  · simp only; split
    · simp
    · rw [e1]; omega
  · simp only; split
    · simp only; omega
    · rw [e2]; exact hs
  · rcases hse with h2 | h2
    · refine .inl ⟨h2.1, by simp [h2.1], ?_⟩
      simp only; split <;> exact h2.2
    · refine .inr ⟨h2.1, by simp [h2.1], ?_⟩
      simp only; split <;> exact h2.2
theorem took_cut {s : DS} {n m : Nat} (h : Run s n m) (hm : m < n) (hn : n ≤ 12) : Took s (s.cut 0).1 (s.cut 0).2 := by
  have hd : s.dead = false := by rcases h.at' with ⟨_, h1, _⟩ | ⟨h1, _⟩; exact h1; omega
  have hdn : s.done ≤ 12 := by rcases h.at' with ⟨_, _, _, h1⟩ | ⟨_, _, _, h1⟩ <;> omega
  have ho := (DS.ok_cut h.ok (by omega) 0).1
  have hs := h.snap
  obtain ⟨e1, e2, e3, e4, e5⟩ := s.spend_log
  have he : s.cut 0 = (if s.left ≠ 1 ∨ s.odd = 0 then { s.spend with log := s.log.take (0 : Int).toNat, synced := (0 : Int).toNat } else s.spend, if s.left = 1 then 18 else 0) := by unfold DS.cut; rw [if_neg (by rw [hd]; simp), if_neg (by omega)]
  rw [he] at ho ⊢
  have hse := spend_ends s hd
  refine ⟨ho, ?_, ?_, ?_, ?_⟩
  · simp only; split <;> exact e3
  · simp only; split
    · simp
    · rw [e1]; omega
  · simp only; split <;> (rw [e2]; exact hs)
  · rcases hse with h2 | h2
    · refine .inl ⟨h2.1, by simp [h2.1], ?_⟩
      simp only; split <;> exact h2.2
    · refine .inr ⟨h2.1, by simp [h2.1], ?_⟩
      simp only; split <;> exact h2.2
theorem Run.took {s t : DS} {n m e : Nat} (h : Run s n m) (hm : m < n) (ht : Took s t e) :
    Run t n (m + 1) ∧ ((m + 1 = n ∧ e = 18 ∧ t.dead = true ∧ t.done = n - 1) ∨ (m + 1 ≠ n ∧ e = 0 ∧ t.dead = false ∧ t.done = m + 1)) := by
  have hl := h.log
  have h2 := ht.log
  rcases h.at' with ⟨_, a1, a2, a3⟩ | ⟨a1, _⟩
  · rcases ht.end' with ⟨b1, b2, b3, b4, b5⟩ | ⟨b1, b2, b3, b4, b5⟩
    · exact ⟨⟨ht.ok, by rw [ht.room]; exact h.room, by omega, ht.snap, .inr ⟨by omega, b3, b4, by omega⟩⟩, .inl ⟨by omega, b2, b3, by omega⟩⟩
    · exact ⟨⟨ht.ok, by rw [ht.room]; exact h.room, by omega, ht.snap, .inl ⟨by omega, b3, by omega, by omega⟩⟩, .inr ⟨by omega, b2, b3, by omega⟩⟩
  · omega

theorem append_at (w : World) (g : Nat) (s : DS) (N : Nat → Prop) (h : Dk w g s N) (hN : ∀ k, N k → k < w.heap.size) (hok : s.ok) (ba : Option Addr) (m bc : Nat) (b : List UInt8) (hm : m = b.length) (hbd : Rd w ba (bs b)) (hbg : b ≠ [] → ∀ ad, ba = some ad → ad.block ≠ g) (hbl : b.length ≤ 1099511627776) :
    Calls Try.prog 24 #[.pointer (some ⟨g, 0, none⟩), .slice ba m bc] w (DkEnd w g N (s.append b).1 (s.append b).2) := by
  subst hm; exact append_any w g s N h hN hok ba bc b hbd hbg hbl
theorem swap_at (w : World) (g : Nat) (s : DS) (N : Nat → Prop) (h : Dk w g s N) (hN : ∀ k, N k → k < w.heap.size) (hok : s.ok) (ba : Option Addr) (m bc : Nat) (b : List UInt8) (hm : m = b.length) (hbd : Rd w ba (bs b)) (hbg : b ≠ [] → ∀ ad, ba = some ad → ad.block ≠ g) (hbl : b.length ≤ 1099511627776) :
    Calls Try.prog 36 #[.pointer (some ⟨g, 0, none⟩), .slice ba m bc] w (DkEnd w g N (s.swap b).1 (s.swap b).2) := by
  subst hm; exact swap_any w g s N h hN hok ba bc b hbd hbg hbl
theorem zeros_bs (m : Nat) : List.replicate m (Value.int .u8 0) = bs (List.replicate m 0) := by simp [bs, B8]

set_option maxRecDepth 100000 in
set_option maxHeartbeats 8000000 in
theorem stops_walk (w : World) (n0 : Int) (za : Option Addr) (zs : List Int) (zc : Nat) (hn0 : I64ok n0) (hzd : Rd w za (is zs)) (hzok : ∀ n ∈ zs, I64ok n) (hzl : zs.length ≤ zc) (hzc : zc ≤ maxLen) :
    Calls Try.prog 11 #[.int .i64 n0, .slice za zs.length zc] w fun e w' => e = .returned (.bool true) ∧ Ext no w w' := by
  have Hn0 := Lib.hid hn0
  have Hzok := Lib.hid hzok
  clear hn0 hzok
  unfold maxLen at hzc
  obtain ⟨r, hr⟩ : ∃ r : Nat, n0 % 12 = r := ⟨(n0 % 12).toNat, by omega⟩
  have hr12 : r < 12 := by omega
  have Hr := Lib.hid hr
  clear hr
  go_enter Try.func11, Try.ntmps11
  go_wp2_with fail
  refine (known_any w).mono ?_
  rintro e w1 ⟨rfl, hx1⟩
  go_wp2_with fail
  refine (newdisk_any w1 60 (by omega) (by omega) no).mono ?_
  rintro e w2 ⟨g, rfl, hD, hg, hx2⟩
  have hx02 := hx1.comp hx2
  have hgw : w.heap.size ≤ g := Nat.le_trans hx1.size hg
  go_wp2_with fail
  refine (within_any n0 12 w2 (by omega) (by omega) Hn0.out).mono ?_
  rintro e w3 ⟨rfl, rfl⟩
  rw [Hr.out]
  obtain ⟨n, hn⟩ : ∃ n, n = 1 + r := ⟨_, rfl⟩
  have hn1 : 1 ≤ n := by omega
  have hn12 : n ≤ 12 := by omega
  go_wp2_with fail
  rw [show (1 + (r : Int)) = ((n : Nat) : Int) from by omega]
  clear hn
  refine (stop_any w2 g (DS.new 60) no hD n ⟨by omega, by omega⟩).mono ?_
  rintro e w3 ⟨rfl, hD3, hx3⟩
  have hrun0 : Run ((DS.new 60).stop n) n 0 := ⟨DS.ok_stop (DS.new_ok _ (by omega)) n ⟨by omega, by omega⟩, rfl, by simp [DS.stop, DS.new], by simp [DS.stop, DS.new], .inl ⟨by omega, rfl, by simp [DS.stop], rfl⟩⟩
  have hx03 : Ext no w w3 := hx02.trans hx3 (fun i hi h => by simp only [Esc.just] at h; omega)
  generalize (DS.new 60).stop n = s0 at *
  clear hD hx1 hx2 hx3 hx02
  go_wp2_with fail
  go_loopw [7, 8] (fun s7 s8 wr => ∃ (k m : Nat) (s : DS), k ≤ zs.length ∧ k ≤ 30 ∧ s8 = .int .i64 k ∧ s7 = .int .i64 m ∧ m ≤ n ∧ Dk wr g s no ∧ Run s n m ∧ Ext no w wr) (fun _ s8 _ => zs.length - (intOf s8).toNat)
  case atStart => exact ⟨0, 0, s0, Nat.zero_le _, by omega, rfl, rfl, by omega, hD3, hrun0, hx03⟩
  case round =>
    clear hD3 hrun0 hx03
    obtain ⟨k, m, s, hk, hk30, rfl, rfl, hmn, hDk, hrun, hxr⟩ := hrel
    by_cases hgo : k < zs.length ∧ k < 30
    rotate_left
    · by_cases hlt : k < zs.length
      focus
        have dd : decide ((k : Int) < zs.length) = true := decT (by omega)
        have dd2 : decide ((k : Int) < 30) = false := decF (by omega)
        go_wp2_with fail
      rotate_left
      focus
        have dd : decide ((k : Int) < zs.length) = false := decF (by omega)
        go_wp2_with fail
      rotate_left
      all_goals
        refine (crash_any wr g s no hDk (fun k h => h.elim) hrun.ok 0 ⟨by omega, by omega⟩).mono ?_
        rintro e w4 ⟨rfl, hD4, hx4⟩
        have hok4 := DS.ok_crash hrun.ok 0
        have e4 : (s.crash 0).dead = false := rfl
        have l4 : (s.crash 0).left = 0 := rfl
        have hx04 : Ext no w w4 := hxr.trans hx4 (fun i hi h => by simp only [Esc.just] at h; omega)
        generalize s.crash 0 = S at *
        have hsy := DS.sync_live e4 l4
        clear hDk hx4
        go_wp2_with fail
        refine (dead_any w4 g S no hD4).mono ?_
        rintro e w5 ⟨rfl, rfl⟩
        rw [e4]
        have Hsy := Lib.hid (show S.sync.2 = 0 by rw [hsy])
        clear e4 l4 hsy
        go_wp2_with fail
        refine (sync_any w4 g S no hD4 hok4).mono ?_
        rintro e w5 ⟨rfl, hD5, hx5⟩
        rw [Hsy.out]
        go_wp2_with fail
        go_ret
        exact ⟨rfl, hx04.trans hx5 (fun i hi h => by simp only [Esc.just] at h; omega)⟩
    obtain ⟨hlt, hl30⟩ := hgo
    have dd : decide ((k : Int) < zs.length) = true := decT (by omega)
    have dd2 : decide ((k : Int) < 30) = true := decT (by omega)
    obtain ⟨zad, rfl, _⟩ := hzd.ne (by simp; omega)
    have hcell := hxr.keeps (hzd.cell k (by simpa using hlt)) (fun h => h)
    rw [show (is zs)[k]'(by simpa using hlt) = .int .i64 zs[k] from by simp [is, I64]] at hcell
    have hqo := Hzok.out zs[k] (by simp)
    generalize zs[k] = q at *
    obtain ⟨c, hc⟩ : ∃ c : Int, q % 6 = c := ⟨_, rfl⟩
    have hc6 : c = 0 ∨ c = 1 ∨ c = 2 ∨ c = 3 ∨ c = 4 ∨ c = 5 := by omega
    have Hqo := Lib.hid hqo
    have Hc := Lib.hid hc
    have Hok := Lib.hid hrun.ok
    clear hqo hc
    go_wp2_with fail
    refine (dead_any wr g s no hDk).mono ?_
    rintro e w3 ⟨rfl, rfl⟩
    by_cases hd : s.dead = true
    · rw [hd]
      have Hd := Lib.hid hd
      clear hd
      go_wp2_with fail
      refine (within_any q 6 wr (by omega) (by omega) Hqo.out).mono ?_
      rintro e w3 ⟨rfl, rfl⟩
      rw [Hc.out]
      rcases hc6 with rfl | rfl | rfl | rfl | rfl | rfl
      --<A
      · go_wp2_with fail
        have hD4 := hDk.no (Ext.alloc no wr (.cells #[.int .u8 1] 5))
        have hrd := Rd.lit wr #[.int .u8 1] 5 (0, 0)
        have hne : ([1] : List UInt8) ≠ [] → ∀ ad', some (⟨wr.heap.size, 0, none⟩ : Addr) = some ad' → ad'.block ≠ g := fun _ ad' h => by cases h; have := hDk.lt; simp only; omega
        have hx4 := Ext.alloc no wr (.cells #[.int .u8 1] 5)
        refine (append_at _ g s no hD4 (fun k h => h.elim) Hok.out _ 1 1 [1] rfl hrd hne (by simp)).mono ?_
        rintro e w5 ⟨rfl, hD5, hx5⟩
        have hap : s.append [1] = (s, 18) := by unfold DS.append; rw [if_pos Hd.out]
        rw [hap] at hD5 ⊢
        have hx05 : Ext no w w5 := (hxr.comp hx4).trans hx5 (fun i hi h => by simp only [Esc.just] at h; omega)
        clear hap hx4 hx5 hDk hcell hxr
        go_wp2_with fail
        go_roundw
        case rel => exact ⟨k + 1, m, s, by omega, by omega, by go_num, rfl, hmn, hD5, hrun, hx05⟩
        case measure => simp [intOf]; omega
      · go_wp2_with fail
        have hx4 := Ext.refl no wr
        refine (sync_any wr g s no hDk Hok.out).mono ?_
        rintro e w5 ⟨rfl, hD5, hx5⟩
        have hap : s.sync = (s, 18) := by unfold DS.sync; rw [if_pos Hd.out]
        rw [hap] at hD5 ⊢
        have hx05 : Ext no w w5 := (hxr.comp hx4).trans hx5 (fun i hi h => by simp only [Esc.just] at h; omega)
        clear hap hx4 hx5 hDk hcell hxr
        go_wp2_with fail
        go_roundw
        case rel => exact ⟨k + 1, m, s, by omega, by omega, by go_num, rfl, hmn, hD5, hrun, hx05⟩
        case measure => simp [intOf]; omega
      · go_wp2_with fail
        have hD4 := hDk.no (Ext.alloc no wr (.cells #[.int .u8 2, .int .u8 3] 5))
        have hrd := Rd.lit wr #[.int .u8 2, .int .u8 3] 5 (0, 0)
        have hne : ([2, 3] : List UInt8) ≠ [] → ∀ ad', some (⟨wr.heap.size, 0, none⟩ : Addr) = some ad' → ad'.block ≠ g := fun _ ad' h => by cases h; have := hDk.lt; simp only; omega
        have hx4 := Ext.alloc no wr (.cells #[.int .u8 2, .int .u8 3] 5)
        refine (swap_at _ g s no hD4 (fun k h => h.elim) Hok.out _ 2 2 [2, 3] rfl hrd hne (by simp)).mono ?_
        rintro e w5 ⟨rfl, hD5, hx5⟩
        have hap : s.swap [2, 3] = (s, 18) := by unfold DS.swap; rw [if_pos Hd.out]
        rw [hap] at hD5 ⊢
        have hx05 : Ext no w w5 := (hxr.comp hx4).trans hx5 (fun i hi h => by simp only [Esc.just] at h; omega)
        clear hap hx4 hx5 hDk hcell hxr
        go_wp2_with fail
        go_roundw
        case rel => exact ⟨k + 1, m, s, by omega, by omega, by go_num, rfl, hmn, hD5, hrun, hx05⟩
        case measure => simp [intOf]; omega
      · go_wp2_with fail
        have hx4 := Ext.refl no wr
        refine (cut_any wr g s no hDk (fun k h => h.elim) Hok.out 0 ⟨by omega, by omega⟩).mono ?_
        rintro e w5 ⟨rfl, hD5, hx5⟩
        have hap : s.cut 0 = (s, 18) := by unfold DS.cut; rw [if_pos Hd.out]
        rw [hap] at hD5 ⊢
        have hx05 : Ext no w w5 := (hxr.comp hx4).trans hx5 (fun i hi h => by simp only [Esc.just] at h; omega)
        clear hap hx4 hx5 hDk hcell hxr
        go_wp2_with fail
        go_roundw
        case rel => exact ⟨k + 1, m, s, by omega, by omega, by go_num, rfl, hmn, hD5, hrun, hx05⟩
        case measure => simp [intOf]; omega
      · go_wp2_with fail
        refine (within_any q 6 wr (by omega) (by omega) Hqo.out).mono ?_
        rintro e w3 ⟨rfl, rfl⟩
        rw [Hc.out]
        obtain ⟨Z, hZ⟩ : ∃ Z : Nat, Z = 70 := ⟨_, rfl⟩
        have HZ := Lib.hid hZ
        clear hZ
        go_wp2_with (with_reducible refine wpList_make_z TBytes rfl rfl rfl Z rfl rfl (by have := HZ.out; omega) (by have := HZ.out; omega) wr.heap.size (Nat.le_refl _) (by have := HZ.out; omega) (by have := HZ.out; unfold maxLen; omega) ?_)
        intro ad w4 hown hx4
        rw [zeros_bs] at hown
        have hD4 := hDk.no hx4
        have hne : List.replicate Z (0 : UInt8) ≠ [] → ∀ ad', some ad = some ad' → ad'.block ≠ g := fun _ ad' h => by cases h; have := (hown.base _ rfl).1; have := hDk.lt; omega
        go_wp2_with fail
        refine (append_at w4 g s no hD4 (fun k h => h.elim) Hok.out (some ad) Z Z (List.replicate Z 0) (by simp) hown.rd hne (by rw [List.length_replicate]; have := HZ.out; omega)).mono ?_
        rintro e w5 ⟨rfl, hD5, hx5⟩
        have hap : s.append (List.replicate Z 0) = (s, 18) := by unfold DS.append; rw [if_pos Hd.out]
        rw [hap] at hD5 ⊢
        have hx05 : Ext no w w5 := (hxr.comp hx4).trans hx5 (fun i hi h => by simp only [Esc.just] at h; omega)
        clear hap hx4 hx5 hDk hcell hxr
        go_wp2_with fail
        go_roundw
        case rel => exact ⟨k + 1, m, s, by omega, by omega, by go_num, rfl, hmn, hD5, hrun, hx05⟩
        case measure => simp [intOf]; omega
      · go_wp2_with fail
        refine (within_any q 6 wr (by omega) (by omega) Hqo.out).mono ?_
        rintro e w3 ⟨rfl, rfl⟩
        rw [Hc.out]
        go_wp2_with fail
        have hx4 := Ext.refl no wr
        refine (cut_any wr g s no hDk (fun k h => h.elim) Hok.out 99 ⟨by omega, by omega⟩).mono ?_
        rintro e w5 ⟨rfl, hD5, hx5⟩
        have hap : s.cut 99 = (s, 18) := by unfold DS.cut; rw [if_pos Hd.out]
        rw [hap] at hD5 ⊢
        have hx05 : Ext no w w5 := (hxr.comp hx4).trans hx5 (fun i hi h => by simp only [Esc.just] at h; omega)
        clear hap hx4 hx5 hDk hcell hxr
        go_wp2_with fail
        go_roundw
        case rel => exact ⟨k + 1, m, s, by omega, by omega, by go_num, rfl, hmn, hD5, hrun, hx05⟩
        case measure => simp [intOf]; omega
      -->A
    · have hd' : s.dead = false := by simpa using hd
      rw [hd']
      have hm2 : m < n := by rcases hrun.at' with ⟨h1, _⟩ | ⟨_, h1, _⟩; exact h1; exact absurd h1 hd
      have Hd := Lib.hid hd'
      clear hd hd'
      go_wp2_with fail
      refine (within_any q 6 wr (by omega) (by omega) Hqo.out).mono ?_
      rintro e w3 ⟨rfl, rfl⟩
      rw [Hc.out]
      rcases hc6 with rfl | rfl | rfl | rfl | rfl | rfl
      --<B
      · go_wp2_with fail
        have hD4 := hDk.no (Ext.alloc no wr (.cells #[.int .u8 1] 5))
        have hrd := Rd.lit wr #[.int .u8 1] 5 (0, 0)
        have hne : ([1] : List UInt8) ≠ [] → ∀ ad', some (⟨wr.heap.size, 0, none⟩ : Addr) = some ad' → ad'.block ≠ g := fun _ ad' h => by cases h; have := hDk.lt; simp only; omega
        have hx4 := Ext.alloc no wr (.cells #[.int .u8 1] 5)
        refine (append_at _ g s no hD4 (fun k h => h.elim) Hok.out _ 1 1 [1] rfl hrd hne (by simp)).mono ?_
        rintro e w5 ⟨rfl, hD5, hx5⟩
        obtain ⟨hrun5, hend⟩ := hrun.took hm2 (took_append hrun hm2 hn12 [1] rfl)
        have hx05 : Ext no w w5 := (hxr.comp hx4).trans hx5 (fun i hi h => by simp only [Esc.just] at h; omega)
        clear hx4 hx5 hDk hcell hxr Hok Hd hrun
        generalize (s.append [1]).1 = S at *
        generalize (s.append [1]).2 = E at *
        rcases hend with ⟨h1, rfl, h3, h4⟩ | ⟨h1, rfl, h3, h4⟩
        · have hb : ((m : Int) + 1 == n) = true := by rw [beq_iff_eq]; omega
          have H3 := Lib.hid h3
          have H4 := Lib.hid h4
          have H1 := Lib.hid h1
          clear h1 h3 h4
          go_wp2_with fail
          refine (dead_any w5 g S no hD5).mono ?_
          rintro e w6 ⟨rfl, rfl⟩
          rw [H3.out]
          go_wp2_with fail
          refine (ops_any w5 g S no hD5).mono ?_
          rintro e w6 ⟨rfl, rfl⟩
          rw [H4.out]
          have h1 := H1.out
          go_wp2_with fail
          all_goals
            go_roundw
            case rel => exact ⟨k + 1, m + 1, S, by omega, by omega, by go_num, by go_num, by omega, hD5, hrun5, hx05⟩
            case measure => simp [intOf]; omega
        · have hb : ((m : Int) + 1 == n) = false := by rw [beq_eq_false_iff_ne]; omega
          have H3 := Lib.hid h3
          have H4 := Lib.hid h4
          have hlt1 : m + 1 < n := by omega
          clear h1 h3 h4
          go_wp2_with fail
          refine (dead_any w5 g S no hD5).mono ?_
          rintro e w6 ⟨rfl, rfl⟩
          rw [H3.out]
          go_wp2_with fail
          refine (ops_any w5 g S no hD5).mono ?_
          rintro e w6 ⟨rfl, rfl⟩
          rw [H4.out]
          go_wp2_with fail
          all_goals
            go_roundw
            case rel => exact ⟨k + 1, m + 1, S, by omega, by omega, by go_num, by go_num, by omega, hD5, hrun5, hx05⟩
            case measure => simp [intOf]; omega
      · go_wp2_with fail
        have hx4 := Ext.refl no wr
        refine (sync_any wr g s no hDk Hok.out).mono ?_
        rintro e w5 ⟨rfl, hD5, hx5⟩
        obtain ⟨hrun5, hend⟩ := hrun.took hm2 (took_sync hrun hm2 hn12)
        have hx05 : Ext no w w5 := (hxr.comp hx4).trans hx5 (fun i hi h => by simp only [Esc.just] at h; omega)
        clear hx4 hx5 hDk hcell hxr Hok Hd hrun
        generalize (s.sync).1 = S at *
        generalize (s.sync).2 = E at *
        rcases hend with ⟨h1, rfl, h3, h4⟩ | ⟨h1, rfl, h3, h4⟩
        · have hb : ((m : Int) + 1 == n) = true := by rw [beq_iff_eq]; omega
          have H3 := Lib.hid h3
          have H4 := Lib.hid h4
          have H1 := Lib.hid h1
          clear h1 h3 h4
          go_wp2_with fail
          refine (dead_any w5 g S no hD5).mono ?_
          rintro e w6 ⟨rfl, rfl⟩
          rw [H3.out]
          go_wp2_with fail
          refine (ops_any w5 g S no hD5).mono ?_
          rintro e w6 ⟨rfl, rfl⟩
          rw [H4.out]
          have h1 := H1.out
          go_wp2_with fail
          all_goals
            go_roundw
            case rel => exact ⟨k + 1, m + 1, S, by omega, by omega, by go_num, by go_num, by omega, hD5, hrun5, hx05⟩
            case measure => simp [intOf]; omega
        · have hb : ((m : Int) + 1 == n) = false := by rw [beq_eq_false_iff_ne]; omega
          have H3 := Lib.hid h3
          have H4 := Lib.hid h4
          have hlt1 : m + 1 < n := by omega
          clear h1 h3 h4
          go_wp2_with fail
          refine (dead_any w5 g S no hD5).mono ?_
          rintro e w6 ⟨rfl, rfl⟩
          rw [H3.out]
          go_wp2_with fail
          refine (ops_any w5 g S no hD5).mono ?_
          rintro e w6 ⟨rfl, rfl⟩
          rw [H4.out]
          go_wp2_with fail
          all_goals
            go_roundw
            case rel => exact ⟨k + 1, m + 1, S, by omega, by omega, by go_num, by go_num, by omega, hD5, hrun5, hx05⟩
            case measure => simp [intOf]; omega
      · go_wp2_with fail
        have hD4 := hDk.no (Ext.alloc no wr (.cells #[.int .u8 2, .int .u8 3] 5))
        have hrd := Rd.lit wr #[.int .u8 2, .int .u8 3] 5 (0, 0)
        have hne : ([2, 3] : List UInt8) ≠ [] → ∀ ad', some (⟨wr.heap.size, 0, none⟩ : Addr) = some ad' → ad'.block ≠ g := fun _ ad' h => by cases h; have := hDk.lt; simp only; omega
        have hx4 := Ext.alloc no wr (.cells #[.int .u8 2, .int .u8 3] 5)
        refine (swap_at _ g s no hD4 (fun k h => h.elim) Hok.out _ 2 2 [2, 3] rfl hrd hne (by simp)).mono ?_
        rintro e w5 ⟨rfl, hD5, hx5⟩
        obtain ⟨hrun5, hend⟩ := hrun.took hm2 (took_swap hrun hm2 hn12 [2, 3] rfl)
        have hx05 : Ext no w w5 := (hxr.comp hx4).trans hx5 (fun i hi h => by simp only [Esc.just] at h; omega)
        clear hx4 hx5 hDk hcell hxr Hok Hd hrun
        generalize (s.swap [2, 3]).1 = S at *
        generalize (s.swap [2, 3]).2 = E at *
        rcases hend with ⟨h1, rfl, h3, h4⟩ | ⟨h1, rfl, h3, h4⟩
        · have hb : ((m : Int) + 1 == n) = true := by rw [beq_iff_eq]; omega
          have H3 := Lib.hid h3
          have H4 := Lib.hid h4
          have H1 := Lib.hid h1
          clear h1 h3 h4
          go_wp2_with fail
          refine (dead_any w5 g S no hD5).mono ?_
          rintro e w6 ⟨rfl, rfl⟩
          rw [H3.out]
          go_wp2_with fail
          refine (ops_any w5 g S no hD5).mono ?_
          rintro e w6 ⟨rfl, rfl⟩
          rw [H4.out]
          have h1 := H1.out
          go_wp2_with fail
          all_goals
            go_roundw
            case rel => exact ⟨k + 1, m + 1, S, by omega, by omega, by go_num, by go_num, by omega, hD5, hrun5, hx05⟩
            case measure => simp [intOf]; omega
        · have hb : ((m : Int) + 1 == n) = false := by rw [beq_eq_false_iff_ne]; omega
          have H3 := Lib.hid h3
          have H4 := Lib.hid h4
          have hlt1 : m + 1 < n := by omega
          clear h1 h3 h4
          go_wp2_with fail
          refine (dead_any w5 g S no hD5).mono ?_
          rintro e w6 ⟨rfl, rfl⟩
          rw [H3.out]
          go_wp2_with fail
          refine (ops_any w5 g S no hD5).mono ?_
          rintro e w6 ⟨rfl, rfl⟩
          rw [H4.out]
          go_wp2_with fail
          all_goals
            go_roundw
            case rel => exact ⟨k + 1, m + 1, S, by omega, by omega, by go_num, by go_num, by omega, hD5, hrun5, hx05⟩
            case measure => simp [intOf]; omega
      · go_wp2_with fail
        have hx4 := Ext.refl no wr
        refine (cut_any wr g s no hDk (fun k h => h.elim) Hok.out 0 ⟨by omega, by omega⟩).mono ?_
        rintro e w5 ⟨rfl, hD5, hx5⟩
        obtain ⟨hrun5, hend⟩ := hrun.took hm2 (took_cut hrun hm2 hn12)
        have hx05 : Ext no w w5 := (hxr.comp hx4).trans hx5 (fun i hi h => by simp only [Esc.just] at h; omega)
        clear hx4 hx5 hDk hcell hxr Hok Hd hrun
        generalize (s.cut 0).1 = S at *
        generalize (s.cut 0).2 = E at *
        rcases hend with ⟨h1, rfl, h3, h4⟩ | ⟨h1, rfl, h3, h4⟩
        · have hb : ((m : Int) + 1 == n) = true := by rw [beq_iff_eq]; omega
          have H3 := Lib.hid h3
          have H4 := Lib.hid h4
          have H1 := Lib.hid h1
          clear h1 h3 h4
          go_wp2_with fail
          refine (dead_any w5 g S no hD5).mono ?_
          rintro e w6 ⟨rfl, rfl⟩
          rw [H3.out]
          go_wp2_with fail
          refine (ops_any w5 g S no hD5).mono ?_
          rintro e w6 ⟨rfl, rfl⟩
          rw [H4.out]
          have h1 := H1.out
          go_wp2_with fail
          all_goals
            go_roundw
            case rel => exact ⟨k + 1, m + 1, S, by omega, by omega, by go_num, by go_num, by omega, hD5, hrun5, hx05⟩
            case measure => simp [intOf]; omega
        · have hb : ((m : Int) + 1 == n) = false := by rw [beq_eq_false_iff_ne]; omega
          have H3 := Lib.hid h3
          have H4 := Lib.hid h4
          have hlt1 : m + 1 < n := by omega
          clear h1 h3 h4
          go_wp2_with fail
          refine (dead_any w5 g S no hD5).mono ?_
          rintro e w6 ⟨rfl, rfl⟩
          rw [H3.out]
          go_wp2_with fail
          refine (ops_any w5 g S no hD5).mono ?_
          rintro e w6 ⟨rfl, rfl⟩
          rw [H4.out]
          go_wp2_with fail
          all_goals
            go_roundw
            case rel => exact ⟨k + 1, m + 1, S, by omega, by omega, by go_num, by go_num, by omega, hD5, hrun5, hx05⟩
            case measure => simp [intOf]; omega
      · go_wp2_with fail
        refine (within_any q 6 wr (by omega) (by omega) Hqo.out).mono ?_
        rintro e w3 ⟨rfl, rfl⟩
        rw [Hc.out]
        obtain ⟨Z, hZ⟩ : ∃ Z : Nat, Z = 70 := ⟨_, rfl⟩
        have HZ := Lib.hid hZ
        clear hZ
        go_wp2_with (with_reducible refine wpList_make_z TBytes rfl rfl rfl Z rfl rfl (by have := HZ.out; omega) (by have := HZ.out; omega) wr.heap.size (Nat.le_refl _) (by have := HZ.out; omega) (by have := HZ.out; unfold maxLen; omega) ?_)
        intro ad w4 hown hx4
        rw [zeros_bs] at hown
        have hD4 := hDk.no hx4
        have hne : List.replicate Z (0 : UInt8) ≠ [] → ∀ ad', some ad = some ad' → ad'.block ≠ g := fun _ ad' h => by cases h; have := (hown.base _ rfl).1; have := hDk.lt; omega
        go_wp2_with fail
        refine (append_at w4 g s no hD4 (fun k h => h.elim) Hok.out (some ad) Z Z (List.replicate Z 0) (by simp) hown.rd hne (by rw [List.length_replicate]; have := HZ.out; omega)).mono ?_
        rintro e w5 ⟨rfl, hD5, hx5⟩
        have hap : s.append (List.replicate Z 0) = (s, 17) := by unfold DS.append; rw [if_neg (by rw [Hd.out]; simp), if_pos (by rw [hrun.room, List.length_replicate]; have := HZ.out; omega)]
        rw [hap] at hD5 ⊢
        have hx05 : Ext no w w5 := (hxr.comp hx4).trans hx5 (fun i hi h => by simp only [Esc.just] at h; omega)
        clear hap hx4 hx5 hDk hcell hxr
        go_wp2_with fail
        refine (dead_any w5 g s no hD5).mono ?_
        rintro e w6 ⟨rfl, rfl⟩
        rw [Hd.out]
        go_wp2_with fail
        go_roundw
        case rel => exact ⟨k + 1, m, s, by omega, by omega, by go_num, rfl, hmn, hD5, hrun, hx05⟩
        case measure => simp [intOf]; omega
      · go_wp2_with fail
        refine (within_any q 6 wr (by omega) (by omega) Hqo.out).mono ?_
        rintro e w3 ⟨rfl, rfl⟩
        rw [Hc.out]
        go_wp2_with fail
        have hx4 := Ext.refl no wr
        refine (cut_any wr g s no hDk (fun k h => h.elim) Hok.out 99 ⟨by omega, by omega⟩).mono ?_
        rintro e w5 ⟨rfl, hD5, hx5⟩
        have hap : s.cut 99 = (s, 1) := by unfold DS.cut; rw [if_neg (by rw [Hd.out]; simp), if_pos (by have := hrun.log; omega)]
        rw [hap] at hD5 ⊢
        have hx05 : Ext no w w5 := (hxr.comp hx4).trans hx5 (fun i hi h => by simp only [Esc.just] at h; omega)
        clear hap hx4 hx5 hDk hcell hxr
        go_wp2_with fail
        refine (dead_any w5 g s no hD5).mono ?_
        rintro e w6 ⟨rfl, rfl⟩
        rw [Hd.out]
        go_wp2_with fail
        go_roundw
        case rel => exact ⟨k + 1, m, s, by omega, by omega, by go_num, rfl, hmn, hD5, hrun, hx05⟩
        case measure => simp [intOf]; omega
      -->B
end Go.Proofs.Ytfihjjbonahahaa
