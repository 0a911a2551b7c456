/- The walk of the law CodeReads. -/
import Derived.Test.YtnplelcnigpemaaLawA
import Derived.Test.YtnplelcnigpemaaLawB
import Derived.Test.YtnplelcnigpemaaRefF
namespace Go.Proofs.Ytnplelcnigpemaa
open Go.RowKit Go.Esc
set_option linter.unusedVariables false

theorem rNums_len : ∀ (n : Nat) (acc : List Int) (l : List UInt8) (ns : List Int) (r : List UInt8), rNums n acc l = (.inr ns, r) → ns.length = acc.length + n
  | 0, acc, l, ns, r, h => by simp [rNums] at h; rw [h.1]; rfl
  | n + 1, acc, l, ns, r, h => by
    rw [rNums] at h
    split at h
    · cases h
    · have := rNums_len n _ _ ns r h
      simp at this; omega
theorem rLen_le (l : List UInt8) (n : Nat) (r : List UInt8) (h : rLen l = (.inr n, r)) : n ≤ 65535 := by
  unfold rLen at h
  split at h
  · cases h
  · split at h
    · simp at h; omega
    · cases h
theorem rInts_len (s : RS) : (rInts s).1.length ≤ 65535 := by
  unfold rInts
  split
  · simp
  · split
    · simp
    · rename_i n r hl
      have := rLen_le _ _ _ hl
      split
      · simp
      · rename_i ns r' hn
        have := rNums_len _ _ _ _ _ hn
        simp at this ⊢; omega

/-- Both readers stand alike. -/
structure Two (w0 wr : World) (g : Nat) (d : Option Nat) (gx : Nat) (a : Option Addr) (c : Nat) (b : List UInt8) (s : RS) : Prop where
  rd : Rdr wr g d s.l s.e
  xr : XRdr wr gx a c b s.l s.e
  ext : Ext no w0 wr
  ne : g ≠ gx
  lg : w0.heap.size ≤ g
  lx : w0.heap.size ≤ gx
  dx : ∀ i, d = some i → i ≠ gx
  lo : b ≠ [] → ∀ ad, a = some ad → ad.block < w0.heap.size

theorem Two.mid {w0 wr w1 : World} {g : Nat} {d : Option Nat} {gx : Nat} {a : Option Addr} {c : Nat} {b : List UInt8} {s : RS} (h : Two w0 wr g d gx a c b s) (hx : Ext (just g) wr w1) : XRdr w1 gx a c b s.l s.e :=
  h.xr.ext hx (fun e => h.ne e.symm) (fun hb ad ha e => by have := h.lo hb ad ha; have := h.lg; simp only [Esc.just] at e; omega)
theorem Two.both {w0 wr w1 w2 : World} {g : Nat} {d : Option Nat} {gx : Nat} {a : Option Addr} {c : Nat} {b : List UInt8} {s : RS} (h : Two w0 wr g d gx a c b s) {s' : RS} (hr : Rdr w1 g d s'.l s'.e) (hx : Ext (just g) wr w1)
    (hxr : XRdr w2 gx a c b s'.l s'.e) (hx2 : Ext (just gx) w1 w2) : Two w0 w2 g d gx a c b s' :=
  ⟨hr.ext hx2 (fun e => h.ne e) (fun i hi e => h.dx i hi e), hxr, (h.ext.trans hx (fun i hi e => by have := h.lg; simp only [Esc.just] at e; omega)).trans hx2 (fun i hi e => by have := h.lx; simp only [Esc.just] at e; omega), h.ne, h.lg, h.lx, h.dx, h.lo⟩
theorem Two.no {w0 wr w1 : World} {g : Nat} {d : Option Nat} {gx : Nat} {a : Option Addr} {c : Nat} {b : List UInt8} {s : RS} (h : Two w0 wr g d gx a c b s) (hx : Ext no wr w1) : Two w0 w1 g d gx a c b s :=
  ⟨h.rd.no hx, h.xr.no hx, h.ext.comp hx, h.ne, h.lg, h.lx, h.dx, h.lo⟩

theorem tdiv_ok (n : Int) (h : I64ok n) : I64ok (n.tdiv 7) := by
  unfold I64ok at *
  have h1 := @Int.tdiv_eq_ediv n 7
  have h2 : Int.sign 7 = 1 := rfl
  rw [h2] at h1
  split at h1 <;> omega

set_option maxHeartbeats 4000000 in
theorem reads_walk (w : World) (a : Option Addr) (l : List UInt8) (c : Nat) (ia : Option Addr) (il : List Int) (ic : Nat) (hrd : Rd w a (bs l)) (hlc : l.length ≤ c) (hc : c ≤ maxLen) (hird : Rd w ia (is il)) (hiok : ∀ n ∈ il, I64ok n) (hilc : il.length ≤ ic) (hic : ic ≤ maxLen) :
    Calls Try.prog 9 #[.slice a l.length c, .slice ia il.length ic] w fun e w' => e = .returned (.bool true) ∧ Ext no w w' := by
  have Hiok := Lib.hid hiok
  clear hiok
  go_enter Try.func9, Try.ntmps9
  go_wp2_with fail
  refine (known_any w).mono ?_
  rintro e w1 ⟨rfl, hext1⟩
  have hrd1 := hrd.ext hext1 (fun _ _ h => h)
  have hlo := hrd.low
  clear hrd
  by_cases hb : 500 < l.length
  · go_wp2_with fail
    go_ret
    exact ⟨rfl, hext1⟩
  have hl5 : l.length ≤ 500 := by omega
  unfold maxLen at hic
  have hz : Own (w1.alloc (.cells #[] 5)) w1.heap.size (some ⟨w1.heap.size, 0, none⟩) 1 0 0 [] := Own.fresh w1 _ _ _ _ _ _ _ _ (Nat.le_refl _) (by simp) (Nat.le_refl _) (Nat.zero_le _) (by simp) (by simp) (.inl (Nat.le_refl _))
  go_wp2_with (at_builtin; refine wpList_append TBytes rfl rfl rfl hz rfl (hrd1.alloc _) (by simp) (bs_one _) (by unfold maxLen; omega) (by omega) (by simp) ?_)
  intro wa wc w2 happ
  have hx12 : Ext no w1 w2 := Ext.ofBelow (((Below.refl _ _).alloc (Nat.le_refl _) _).trans (hz.below happ.ext (by simp))) (Nat.le_refl _)
  have hown := happ.own
  rw [Nat.zero_add, List.nil_append] at hown
  clear happ hz
  go_wp2_with fail
  refine (new_any w2 wa wc l hown.rd (by omega)).mono ?_
  rintro e w3 ⟨g, d, rfl, hr3, hg3, hd3, hx3⟩
  have hx13 := hx12.comp hx3
  have hrd3 := hrd1.ext hx13 (fun _ _ h => h)
  clear hown
  go_wp2_with fail
  refine (xnew_any w3 a c l hrd3 hlc hc).mono ?_
  rintro e w4 ⟨rfl, hxr4, hx4⟩
  have hx14 := hx13.comp hx4
  have hg3lt := hr3.lt
  have htwo : Two w w4 g d w3.heap.size a c l ⟨l, 0⟩ := ⟨hr3.no hx4, hxr4, hext1.comp hx14, by omega, by have := hext1.size; have := hx12.size; omega, by have := hext1.size; have := hx13.size; omega, fun i hi => by have := (hr3.sep i hi).2; omega, hlo⟩
  generalize w3.heap.size = gx at *
  clear hlo hrd1 hx12 hx3 hx13 hrd3 hr3 hxr4 hx4 hx14 hext1 hg3 hd3 hg3lt
  go_wp2_with fail
  go_loopw [7] (fun s7 wr => ∃ (k : Nat) (s : RS), k ≤ il.length ∧ s7 = .int .i64 k ∧ Two w wr g d gx a c l s) (fun s7 _ => il.length - (intOf s7).toNat)
  case atStart => exact ⟨0, _, Nat.zero_le _, rfl, htwo⟩
  case round =>
    clear htwo
    obtain ⟨k, s, hk, rfl, ht⟩ := hrel
    by_cases hlt : k < il.length ∧ k < 30
    · obtain ⟨hlt, h30⟩ := hlt
      have hb1 : decide (k < il.length) = true := decide_eq_true hlt
      have hb2 : decide ((k : Int) < 30) = true := by rw [decide_eq_true_eq]; omega
      obtain ⟨ad, rfl, _⟩ := hird.ne (by simp; omega)
      have hcell0 := hird.cell k (by simpa using hlt)
      rw [show (is il)[k]'(by simpa using hlt) = .int .i64 il[k] from by simp [is, I64]] at hcell0
      have hcell := ht.ext.keeps hcell0 (fun h => h)
      have hq := Hiok.out il[k] (by simp)
      have Hq := Lib.hid hq
      have Hqd := Lib.hid (tdiv_ok _ hq)
      clear hq
      go_wp2_with fail
      refine (within_any il[k] 7 wr (by omega) (by omega) Hq.out).mono ?_
      rintro e w2 ⟨rfl, rfl⟩
      obtain ⟨v, hv, hv0, hv7⟩ : ∃ v : Int, il[k] % 7 = v ∧ 0 ≤ v ∧ v < 7 := ⟨_, rfl, by omega, by omega⟩
      rw [hv]
      clear hv
      generalize il[k] = q at *
      have hw7 : wrap64 (q.tdiv 7) = q.tdiv 7 := by have := Hqd.out; unfold wrap64; unfold I64ok at this; omega
      have hv' : (v = 0 ∨ v = 1 ∨ v = 2) ∨ (v = 3 ∨ v = 4) ∨ v = 5 ∨ v = 6 := by omega
      clear hv0 hv7
      rcases hv' with hv' | hv' | rfl | rfl
      · rcases hv' with rfl | rfl | rfl
        all_goals
          go_wp2_with fail
          refine (rdInt_any wr g s ht.rd).mono ?_
          rintro e w5 ⟨rfl, hr5, hx5⟩
          go_wp2_with fail
          refine (xint_any w5 gx s (ht.mid hx5)).mono ?_
          rintro e w6 ⟨rfl, hr6, hx6⟩
          have ht2 := ht.both hr5 hx5 hr6 hx6
          clear hr5 hr6 hx5 hx6
          generalize (rInt s).2 = S at *
          go_wp2_with fail
          refine (end_any w6 g S (ht2.rd)).mono ?_
          rintro e w7 ⟨rfl, rfl⟩
          go_wp2_with fail
          refine (xend_any w6 gx S (ht2.xr)).mono ?_
          rintro e w8 ⟨rfl, hx8⟩
          have ht3 := ht2.no hx8
          clear ht2 ht
          go_wp2_with fail
          go_roundw
          case rel => exact ⟨k + 1, _, by omega, by go_num, ht3⟩
          case measure => simp [intOf]; omega
      · rcases hv' with rfl | rfl
        all_goals
          go_wp2_with fail
          refine (rdText_any wr g s ht.rd).mono ?_
          rintro e w5 ⟨rfl, hr5, hx5⟩
          generalize hts : str (rText s).1 = ts
          go_wp2_with fail
          refine (xtext_any w5 gx s (ht.mid hx5)).mono ?_
          rintro e w6 ⟨rfl, hr6, hx6⟩
          rw [hts]
          clear hts
          have ht2 := ht.both hr5 hx5 hr6 hx6
          clear hr5 hr6 hx5 hx6
          generalize (rText s).2 = S at *
          go_wp2_with fail
          refine (end_any w6 g S (ht2.rd)).mono ?_
          rintro e w7 ⟨rfl, rfl⟩
          go_wp2_with fail
          refine (xend_any w6 gx S (ht2.xr)).mono ?_
          rintro e w8 ⟨rfl, hx8⟩
          have ht3 := ht2.no hx8
          clear ht2 ht
          go_wp2_with fail
          go_roundw
          case rel => exact ⟨k + 1, _, by omega, by go_num, ht3⟩
          case measure => simp [intOf]; omega
      · go_wp2_with fail
        refine (rdInts_any wr g s ht.rd).mono ?_
        rintro e w5 ⟨a5, c5, rfl, hrd5, hfr5, hr5, hx5⟩
        have hln := rInts_len s
        generalize hns : (rInts s).1 = ns at *
        go_wp2_with fail
        refine (xints_any w5 gx s (ht.mid hx5)).mono ?_
        rintro e w6 ⟨a6, c6, rfl, hrd6, hr6, hx6⟩
        rw [hns] at hrd6 ⊢
        clear hns
        have ht2 := ht.both hr5 hx5 hr6 hx6
        have hrd5' : Rd w6 a5 (is ns) := hrd5.ext hx6 (fun ad ha h => by have := hfr5 ad ha; have := ht.xr.lt; simp only [Esc.just] at h; omega)
        clear hr5 hr6 hx5 hx6 hrd5
        generalize (rInts s).2 = S at *
        go_wp2_with fail
        refine (lists_any w6 a5 a6 c5 c6 ns ns hrd5' hrd6 (by omega) (by omega)).mono ?_
        rintro e w7 ⟨rfl, hx7⟩
        rw [decide_eq_true rfl]
        have ht2' := ht2.no hx7
        clear ht2 hrd5' hrd6 hx7
        go_wp2_with fail
        refine (end_any w7 g S (ht2'.rd)).mono ?_
        rintro e w9 ⟨rfl, rfl⟩
        go_wp2_with fail
        refine (xend_any w7 gx S (ht2'.xr)).mono ?_
        rintro e w8 ⟨rfl, hx8⟩
        have ht3 := ht2'.no hx8
        clear ht2' ht
        go_wp2_with fail
        go_roundw
        case rel => exact ⟨k + 1, _, by omega, by go_num, ht3⟩
        case measure => simp [intOf]; omega
      · go_wp2_with fail
        refine (within_any (q.tdiv 7) 20 wr (by omega) (by omega) Hqd.out).mono ?_
        rintro e w5 ⟨rfl, rfl⟩
        obtain ⟨v, hv⟩ : ∃ v : Int, q.tdiv 7 % 20 = v := ⟨_, rfl⟩
        rw [hv]
        have Hv := Lib.hid hv
        clear hv
        go_wp2_with fail
        refine (fail_any wr g s.l s.e v ht.rd).mono ?_
        rintro e w5 ⟨rfl, hr5, hx5⟩
        have hcell5 := hx5.keeps hcell (fun h => by have := hird.ne (by simp; omega); obtain ⟨ad', h1, h2⟩ := this; cases h1; have := ht.lg; rw [Esc.add_block] at h; simp only [Esc.just] at h; omega)
        go_wp2_with fail
        refine (within_any (q.tdiv 7) 20 w5 (by omega) (by omega) Hqd.out).mono ?_
        rintro e w6 ⟨rfl, rfl⟩
        rw [Hv.out]
        go_wp2_with fail
        refine (xfail_any w5 gx s.l s.e v (ht.mid hx5)).mono ?_
        rintro e w6 ⟨rfl, hr6, hx6⟩
        have ht2 : Two w w6 g d gx a c l ⟨s.l, fails s.e v⟩ := ht.both hr5 hx5 hr6 hx6
        clear hr5 hr6 hx5 hx6 hcell5
        generalize (⟨s.l, fails s.e v⟩ : RS) = S at *
        go_wp2_with fail
        refine (end_any w6 g S (ht2.rd)).mono ?_
        rintro e w7 ⟨rfl, rfl⟩
        go_wp2_with fail
        refine (xend_any w6 gx S (ht2.xr)).mono ?_
        rintro e w8 ⟨rfl, hx8⟩
        have ht3 := ht2.no hx8
        clear ht2 ht
        go_wp2_with fail
        go_roundw
        case rel => exact ⟨k + 1, _, by omega, by go_num, ht3⟩
        case measure => simp [intOf]; omega
    · by_cases h30 : k < il.length
      · have hb1 : decide (k < il.length) = true := decide_eq_true h30
        have hb2 : decide ((k : Int) < 30) = false := by rw [decide_eq_false_iff_not]; omega
        go_wp2_with fail
        refine (end_any wr g s (ht.rd)).mono ?_
        rintro e w7 ⟨rfl, rfl⟩
        go_wp2_with fail
        refine (xend_any wr gx s (ht.xr)).mono ?_
        rintro e w8 ⟨rfl, hx8⟩
        have ht3 := ht.ext.comp hx8
        clear ht
        go_wp2_with fail
        go_ret
        exact ⟨rfl, ht3⟩
      · go_wp2_with fail
        refine (end_any wr g s (ht.rd)).mono ?_
        rintro e w7 ⟨rfl, rfl⟩
        go_wp2_with fail
        refine (xend_any wr gx s (ht.xr)).mono ?_
        rintro e w8 ⟨rfl, hx8⟩
        have ht3 := ht.ext.comp hx8
        clear ht
        go_wp2_with fail
        go_ret
        exact ⟨rfl, ht3⟩
end Go.Proofs.Ytnplelcnigpemaa
