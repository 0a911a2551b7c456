/- The walk of the reference's Up. -/
import Derived.Test.YtcopnpkblcgocaaDoorScE
namespace Go.Proofs.YtcopnpkblcgocaaDoor
open Go.RowKit Go.Esc
set_option linter.unusedVariables false
set_option linter.unusedSimpArgs false

set_option maxRecDepth 100000 in
set_option maxHeartbeats 8000000 in
theorem refup_any (w : World) (l : List UInt8) (hl : l.length ≤ 1099511627776) (a b' : Int) (ha : I64ok a) (hb : I64ok b') :
    Calls Tryd.prog 11 #[.string (str l), .int .i64 a, .int .i64 b'] w fun e w' => e = .returned (.tuple #[.string (str (up l a b')), .int .i64 (upErr a b' : Nat)]) ∧ Ext no w w' := by
  obtain ⟨va, hva⟩ : ∃ x, x = isVer a := ⟨_, rfl⟩
  obtain ⟨vb, hvb⟩ : ∃ x, x = isVer b' := ⟨_, rfl⟩
  have Hva := Lib.hid hva
  have Hvb := Lib.hid hvb
  clear hva hvb
  have hln := low_len l
  go_enter Tryd.func11, Tryd.ntmps11
  go_wp2_with fail
  refine (version_any w a ha).mono ?_
  rintro e w1 ⟨rfl, rfl⟩
  rw [← Hva.out]
  cases va with
  | false =>
    have h1 := upErr_bad (a := a) (b := b') (by rw [← Hva.out]; simp)
    have Hb := Lib.hid (show upErr a b' = 1 ∧ up l a b' = [] from ⟨h1, up_err l (by omega)⟩)
    clear h1
    go_wp2_with fail
    go_ret2
    rw [Hb.out.1, Hb.out.2]
    exact ⟨rfl, Ext.refl _ _⟩
  | true =>
    go_wp2_with fail
    refine (version_any w b' hb).mono ?_
    rintro e w1 ⟨rfl, rfl⟩
    rw [← Hvb.out]
    cases vb with
    | false =>
      have h1 := upErr_bad (a := a) (b := b') (by rw [← Hvb.out]; simp)
      have Hb := Lib.hid (show upErr a b' = 1 ∧ up l a b' = [] from ⟨h1, up_err l (by omega)⟩)
      clear h1
      go_wp2_with fail
      go_ret2
      rw [Hb.out.1, Hb.out.2]
      exact ⟨rfl, Ext.refl _ _⟩
    | true =>
      obtain ⟨ha1, ha2⟩ := (isVer_iff a).1 Hva.out.symm
      obtain ⟨hb1, hb2⟩ := (isVer_iff b').1 Hvb.out.symm
      by_cases hlt : b' < a
      · have d1 : decide (b' < a) = true := decT hlt
        have h1 := upErr_lt ⟨Hva.out.symm, Hvb.out.symm⟩ hlt
        have Hb := Lib.hid (show upErr a b' = 13 ∧ up l a b' = [] from ⟨h1, up_err l (by omega)⟩)
        clear h1
        go_wp2_with fail
        go_ret2
        rw [Hb.out.1, Hb.out.2]
        exact ⟨rfl, Ext.refl _ _⟩
      have d1 : decide (b' < a) = false := decF hlt
      have h0 := upErr_ok ⟨Hva.out.symm, Hvb.out.symm⟩ hlt
      have hx0 := Ext.refl no w
      rcases (show (a = 1 ∧ b' = 1) ∨ (a = 2 ∧ b' = 2) ∨ (a = 3 ∧ b' = 3) ∨ (a = 1 ∧ b' = 2) ∨ (a = 1 ∧ b' = 3) ∨ (a = 2 ∧ b' = 3) by omega) with ⟨rfl, rfl⟩ | ⟨rfl, rfl⟩ | ⟨rfl, rfl⟩ | ⟨rfl, rfl⟩ | ⟨rfl, rfl⟩ | ⟨rfl, rfl⟩
      · have Hb := Lib.hid (show upErr 1 1 = 0 from h0)
        clear h0 d1 hlt
        have Hd := Lib.hid (show up l 1 1 = l from rfl)
        go_wp2_with fail
        go_ret2
        rw [Hb.out, Hd.out]
        exact ⟨rfl, hx0⟩
      · have Hb := Lib.hid (show upErr 2 2 = 0 from h0)
        clear h0 d1 hlt
        have Hd := Lib.hid (show up l 2 2 = l from rfl)
        go_wp2_with fail
        go_ret2
        rw [Hb.out, Hd.out]
        exact ⟨rfl, hx0⟩
      · have Hb := Lib.hid (show upErr 3 3 = 0 from h0)
        clear h0 d1 hlt
        have Hd := Lib.hid (show up l 3 3 = l from rfl)
        go_wp2_with fail
        go_ret2
        rw [Hb.out, Hd.out]
        exact ⟨rfl, hx0⟩
      · have Hb := Lib.hid (show upErr 1 2 = 0 from h0)
        clear h0 d1 hlt
        go_wp2_with (refine wpList_bytes_of (by exact Tryd.underlying9) (by exact Tryd.underlying29) (by exact Tryd.underlying5) rfl rfl rfl w.heap.size (Nat.le_refl _) ?c1 ?_)
        case c1 => rw [str_size]; unfold maxLen; omega
        intro v c w2 hown hx2
        rw [str_size] at hown ⊢
        replace hown : Own w2 w.heap.size v 1 l.length c (bs (lo l 0)) := by rw [lo_zero]; exact hown
        go_wp2_with fail
        go_loopw [9] (fun s9 wr => ∃ i : Nat, i ≤ l.length ∧ s9 = .int .i64 i ∧ Own wr w.heap.size v 1 l.length c (bs (lo l i)) ∧ Ext no w wr) (fun s9 _ => l.length - (intOf s9).toNat)
        case atStart => exact ⟨0, Nat.zero_le _, rfl, hown, hx2⟩
        case round =>
          clear hown hx2
          obtain ⟨k, hk, rfl, hown, hx⟩ := hrel
          have hnc := hown.nc
          by_cases hkn : k < l.length
          rotate_left
          · have e0 : decide ((k : Int) < l.length) = false := decF (by omega)
            have hrd := hown.rd
            have Hlo := Lib.hid (lo_all l (Nat.le_of_not_lt hkn))
            rw [Hlo.out] at hrd
            have cx : (convert 29 9 (.slice v l.length c)).run Tryd.prog wr = .ok (.string (str (low l))) wr := convStr _ _ _ _ _ (low_len l).symm hrd
            clear hown
            have Hd := Lib.hid (show up l 1 2 = low l from rfl)
            go_wp2_with fail
            go_ret2
            rw [Hb.out, Hd.out]
            exact ⟨rfl, hx⟩
          have hMl := lo_len l k
          obtain ⟨ad, rfl, hadlt⟩ := hown.rd.ne (by simp only [bs_length]; rw [hMl]; omega)
          have hc := hown.rd.cell k (by simp only [bs_length]; rw [hMl]; omega)
          rw [show (bs (lo l k))[k]'(by simp only [bs_length]; rw [hMl]; omega) = .int .u8 (l[k]'hkn).toNat from by
            have h1 : (bs (lo l k))[k]? = some (.int .u8 (l[k]'hkn).toNat) := by
              unfold bs
              rw [List.getElem?_map, lo_get l (Nat.le_refl _) hkn]
              rfl
            rw [List.getElem?_eq_getElem (by simp only [bs_length]; rw [hMl]; omega)] at h1
            exact Option.some.inj h1] at hc
          have hsame : ¬ (65 ≤ (l[k]'hkn).toNat ∧ (l[k]'hkn).toNat ≤ 90) → lo l k = lo l (k + 1) := fun h => (lo_same l hkn (lowB_not h)).symm
          have hgreat : 65 ≤ (l[k]'hkn).toNat ∧ (l[k]'hkn).toNat ≤ 90 → (lo l k).set k ((l[k]'hkn) + 32) = lo l (k + 1) := fun h => by rw [lo_next l hkn, (lowB_great h).1]
          have hsum : 65 ≤ (l[k]'hkn).toNat ∧ (l[k]'hkn).toNat ≤ 90 → (((l[k]'hkn) + 32 : UInt8).toNat : Int) = (l[k]'hkn).toNat - 65 + 97 := fun h => by have := lowB_great h; rw [this.1] at this; omega
          have e0 : decide ((k : Int) < l.length) = true := decT (by omega)
          have hbf : wr.frozen? (ad.add k) = false := by
            obtain ⟨_, e, _, f⟩ := hown.can k (by omega)
            cases e; exact f
          have hxlt := (l[k]'hkn).toNat_lt
          generalize (l[k]'hkn) = x at *
          by_cases hgr : 65 ≤ x.toNat ∧ x.toNat ≤ 90
          · have d1 : decide ((65 : Int) ≤ x.toNat) = true := decT (by omega)
            have d2 : decide ((x.toNat : Int) ≤ 90) = true := decT (by omega)
            have Hset := Lib.hid (hgreat hgr)
            have Hsum := Lib.hid (hsum hgr)
            have hxs : Ext (just ad.block) wr (wr.setCell (ad.add k) (.int .u8 ((x.toNat : Int) - 65 + 97))) := Ext.setCell _ _ _ (add_block _ _)
            have hown5 : Own (wr.setCell (ad.add k) (.int .u8 ((x.toNat : Int) - 65 + 97))) w.heap.size (some ad) 1 l.length c (bs (lo l (k + 1))) := by
              have := hown.set k (by omega) (.int .u8 ((x.toNat : Int) - 65 + 97))
              rw [← Hset.out]
              have e : bs ((lo l k).set k (x + 32)) = (bs (lo l k)).set k (.int .u8 ((x.toNat : Int) - 65 + 97)) := by
                unfold bs; rw [List.map_set]; congr 1; unfold B8; rw [Hsum.out]
              rw [e]; exact this
            have hx5 : Ext no w (wr.setCell (ad.add k) (.int .u8 ((x.toNat : Int) - 65 + 97))) := hx.trans hxs (fun i hi e => by simp only [Esc.just] at e; have := (hown.base ad rfl).1; omega)
            clear hsame hgreat hsum hown hx
            go_wp2_with fail
            go_roundw
            case rel => exact ⟨k + 1, by omega, by go_num, hown5, hx5⟩
            case measure => simp [intOf]; omega
          · have Hsm := Lib.hid (hsame hgr)
            clear hsame hgreat hsum
            have hown5 : Own wr w.heap.size (some ad) 1 l.length c (bs (lo l (k + 1))) := by rw [← Hsm.out]; exact hown
            clear hown
            by_cases h65 : 65 ≤ x.toNat
            · have d1 : decide ((65 : Int) ≤ x.toNat) = true := decT (by omega)
              have d2 : decide ((x.toNat : Int) ≤ 90) = false := decF (by omega)
              go_wp2_with fail
              go_roundw
              case rel => exact ⟨k + 1, by omega, by go_num, hown5, hx⟩
              case measure => simp [intOf]; omega
            · have d1 : decide ((65 : Int) ≤ x.toNat) = false := decF (by omega)
              go_wp2_with fail
              go_roundw
              case rel => exact ⟨k + 1, by omega, by go_num, hown5, hx⟩
              case measure => simp [intOf]; omega
      · have Hb := Lib.hid (show upErr 1 3 = 0 from h0)
        clear h0 d1 hlt
        go_wp2_with (refine wpList_bytes_of (by exact Tryd.underlying9) (by exact Tryd.underlying29) (by exact Tryd.underlying5) rfl rfl rfl w.heap.size (Nat.le_refl _) ?c1 ?_)
        case c1 => rw [str_size]; unfold maxLen; omega
        intro v c w2 hown hx2
        rw [str_size] at hown ⊢
        replace hown : Own w2 w.heap.size v 1 l.length c (bs (lo l 0)) := by rw [lo_zero]; exact hown
        go_wp2_with fail
        go_loopw [9] (fun s9 wr => ∃ i : Nat, i ≤ l.length ∧ s9 = .int .i64 i ∧ Own wr w.heap.size v 1 l.length c (bs (lo l i)) ∧ Ext no w wr) (fun s9 _ => l.length - (intOf s9).toNat)
        case atStart => exact ⟨0, Nat.zero_le _, rfl, hown, hx2⟩
        case round =>
          clear hown hx2
          obtain ⟨k, hk, rfl, hown, hx⟩ := hrel
          have hnc := hown.nc
          by_cases hkn : k < l.length
          rotate_left
          · have e0 : decide ((k : Int) < l.length) = false := decF (by omega)
            have hrd := hown.rd
            have Hlo := Lib.hid (lo_all l (Nat.le_of_not_lt hkn))
            rw [Hlo.out] at hrd
            have cx : (convert 29 9 (.slice v l.length c)).run Tryd.prog wr = .ok (.string (str (low l))) wr := convStr _ _ _ _ _ (low_len l).symm hrd
            clear hown
            have Htr := Lib.hid (show up l 1 3 = trimL (trimR (low l)) from rfl)
            have hTl : (low l).length ≤ 1099511627776 := by omega
            have hxc := hx
            clear hx0
            generalize low l = T at *
            go_wp2_with fail
            go_loopw [0] (fun s0 wt => ∃ m : List UInt8, s0 = .string (str m) ∧ trimL m = trimL T ∧ m.length ≤ T.length ∧ Ext no w wt) (fun s0 _ => match s0 with | .string s => s.size | _ => 0)
            case atStart => exact ⟨T, rfl, rfl, Nat.le_refl _, hxc⟩
            case round =>
              clear hxc
              obtain ⟨m, rfl, hm, hml, hxc⟩ := hrel
              have Hm := Lib.hid hm
              clear hm
              cases hmc : m with
              | nil =>
                have Hd := Lib.hid (show trimL T = [] by rw [← Hm.out, hmc]; rfl)
                clear hmc
                go_wp2_with fail
                go_loopw [0] (fun s0 wu => ∃ m2 : List UInt8, s0 = .string (str m2) ∧ trimR m2 = trimR (trimL T) ∧ m2.length ≤ 1099511627776 ∧ Ext no w wu) (fun s0 _ => match s0 with | .string s => s.size | _ => 0)
                case atStart => exact ⟨[], rfl, by rw [Hd.out], by simp, hxc⟩
                case round =>
                  clear Hd hxc
                  obtain ⟨m2, rfl, hm2, hm2l, hxc⟩ := hrel
                  have Hm2 := Lib.hid hm2
                  clear hm2
                  have hsz := str_size m2
                  rcases List.eq_nil_or_concat m2 with hmc | ⟨t2, b2, hmc⟩
                  · have Hd := Lib.hid (show up l 1 3 = [] by rw [Htr.out, trim_comm, ← Hm2.out, hmc]; rfl)
                    subst hmc
                    go_wp2_with fail
                    go_ret2
                    rw [Hb.out, Hd.out]
                    exact ⟨rfl, hxc⟩
                  · have hlen : m2.length = t2.length + 1 := by rw [hmc]; simp
                    have hpos : decide (0 < m2.length) = true := decT (by omega)
                    have hix : ∀ w, (Instr.index 9 (.string (str m2)) (.int .i64 ((m2.length : Int) - 1))).run Tryd.prog w = .ok (.int .u8 b2.toNat) w := fun w => by
                      rw [show (m2.length : Int) - 1 = (t2.length : Int) by omega]
                      exact str_index w m2 t2.length b2 (by rw [hmc]; simp)
                    have hct : ∀ w, (Instr.sliceAt 9 (.string (str m2)) none (some (.int .i64 ((m2.length : Int) - 1))) none).run Tryd.prog w = .ok (.string (str t2)) w := fun w => by
                      rw [show (m2.length : Int) - 1 = (t2.length : Int) by omega, cut_to w m2 t2.length (by omega), hmc]
                      simp
                    have hsz3 := str_size t2
                    have Hlen := Lib.hid hlen
                    by_cases hb : b2 = 32
                    · have hb2 : ((b2.toNat : Int) == 32) = true := by rw [hb]; rfl
                      have Hn := Lib.hid (show trimR t2 = trimR (trimL T) by rw [← Hm2.out, hmc, List.concat_eq_append, trimR_snoc, if_pos hb])
                      have Hl := Lib.hid (show t2.length ≤ 1099511627776 by omega)
                      clear hb hmc hlen
                      go_wp2_with fail
                      go_roundw
                      case rel => exact ⟨t2, rfl, Hn.out, Hl.out, hxc⟩
                      case measure => have := Hlen.out; simp [hsz, hsz3]; omega
                    · have hb2 : ((b2.toNat : Int) == 32) = false := by
                        rw [beq_eq_false_iff_ne]
                        intro e
                        exact hb (UInt8.toNat_inj.1 (by show b2.toNat = 32; omega))
                      have Hd := Lib.hid (show up l 1 3 = m2 by rw [Htr.out, trim_comm, ← Hm2.out, hmc, List.concat_eq_append, trimR_snoc, if_neg hb])
                      clear hb hmc hlen
                      go_wp2_with fail
                      go_ret2
                      rw [Hb.out, Hd.out]
                      exact ⟨rfl, hxc⟩
              | cons b t =>
                have hix : ∀ w, (Instr.index 9 (.string (str (b :: t))) (.int .i64 0)).run Tryd.prog w = .ok (.int .u8 b.toNat) w := fun w => str_index w (b :: t) 0 b rfl
                have hct : ∀ w, (Instr.sliceAt 9 (.string (str (b :: t))) (some (.int .i64 1)) none none).run Tryd.prog w = .ok (.string (str t)) w := fun w => cut_from w (b :: t) 1 (by simp)
                have hsz2 := str_size (b :: t)
                have hsz3 := str_size t
                by_cases hb : b = 32
                · have hb2 : ((b.toNat : Int) == 32) = true := by rw [hb]; rfl
                  have Hn := Lib.hid (show trimL t = trimL T by rw [← Hm.out, hmc, trimL_cons, if_pos hb])
                  have Hl := Lib.hid (show t.length ≤ T.length by rw [hmc] at hml; simp at hml; omega)
                  clear hb hmc
                  go_wp2_with fail
                  go_roundw
                  case rel => exact ⟨t, rfl, Hn.out, Hl.out, hxc⟩
                  case measure => simp [hsz2, hsz3]
                · have hb2 : ((b.toNat : Int) == 32) = false := by
                    rw [beq_eq_false_iff_ne]
                    intro e
                    exact hb (UInt8.toNat_inj.1 (by show b.toNat = 32; omega))
                  have Hd := Lib.hid (show trimL T = b :: t by rw [← Hm.out, hmc, trimL_cons, if_neg hb])
                  have hl3 : (b :: t).length ≤ 1099511627776 := by rw [hmc] at hml; omega
                  clear hb hmc
                  go_wp2_with fail
                  clear hix hct hsz2 hsz3 hb2
                  go_loopw [0] (fun s0 wu => ∃ m2 : List UInt8, s0 = .string (str m2) ∧ trimR m2 = trimR (trimL T) ∧ m2.length ≤ 1099511627776 ∧ Ext no w wu) (fun s0 _ => match s0 with | .string s => s.size | _ => 0)
                  case atStart => exact ⟨b :: t, rfl, by rw [Hd.out], hl3, hxc⟩
                  case round =>
                    clear Hd hxc
                    obtain ⟨m2, rfl, hm2, hm2l, hxc⟩ := hrel
                    have Hm2 := Lib.hid hm2
                    clear hm2
                    have hsz := str_size m2
                    rcases List.eq_nil_or_concat m2 with hmc | ⟨t2, b2, hmc⟩
                    · have Hd := Lib.hid (show up l 1 3 = [] by rw [Htr.out, trim_comm, ← Hm2.out, hmc]; rfl)
                      subst hmc
                      go_wp2_with fail
                      go_ret2
                      rw [Hb.out, Hd.out]
                      exact ⟨rfl, hxc⟩
                    · have hlen : m2.length = t2.length + 1 := by rw [hmc]; simp
                      have hpos : decide (0 < m2.length) = true := decT (by omega)
                      have hix : ∀ w, (Instr.index 9 (.string (str m2)) (.int .i64 ((m2.length : Int) - 1))).run Tryd.prog w = .ok (.int .u8 b2.toNat) w := fun w => by
                        rw [show (m2.length : Int) - 1 = (t2.length : Int) by omega]
                        exact str_index w m2 t2.length b2 (by rw [hmc]; simp)
                      have hct : ∀ w, (Instr.sliceAt 9 (.string (str m2)) none (some (.int .i64 ((m2.length : Int) - 1))) none).run Tryd.prog w = .ok (.string (str t2)) w := fun w => by
                        rw [show (m2.length : Int) - 1 = (t2.length : Int) by omega, cut_to w m2 t2.length (by omega), hmc]
                        simp
                      have hsz3 := str_size t2
                      have Hlen := Lib.hid hlen
                      by_cases hb : b2 = 32
                      · have hb2 : ((b2.toNat : Int) == 32) = true := by rw [hb]; rfl
                        have Hn := Lib.hid (show trimR t2 = trimR (trimL T) by rw [← Hm2.out, hmc, List.concat_eq_append, trimR_snoc, if_pos hb])
                        have Hl := Lib.hid (show t2.length ≤ 1099511627776 by omega)
                        clear hb hmc hlen
                        go_wp2_with fail
                        go_roundw
                        case rel => exact ⟨t2, rfl, Hn.out, Hl.out, hxc⟩
                        case measure => have := Hlen.out; simp [hsz, hsz3]; omega
                      · have hb2 : ((b2.toNat : Int) == 32) = false := by
                          rw [beq_eq_false_iff_ne]
                          intro e
                          exact hb (UInt8.toNat_inj.1 (by show b2.toNat = 32; omega))
                        have Hd := Lib.hid (show up l 1 3 = m2 by rw [Htr.out, trim_comm, ← Hm2.out, hmc, List.concat_eq_append, trimR_snoc, if_neg hb])
                        clear hb hmc hlen
                        go_wp2_with fail
                        go_ret2
                        rw [Hb.out, Hd.out]
                        exact ⟨rfl, hxc⟩
          have hMl := lo_len l k
          obtain ⟨ad, rfl, hadlt⟩ := hown.rd.ne (by simp only [bs_length]; rw [hMl]; omega)
          have hc := hown.rd.cell k (by simp only [bs_length]; rw [hMl]; omega)
          rw [show (bs (lo l k))[k]'(by simp only [bs_length]; rw [hMl]; omega) = .int .u8 (l[k]'hkn).toNat from by
            have h1 : (bs (lo l k))[k]? = some (.int .u8 (l[k]'hkn).toNat) := by
              unfold bs
              rw [List.getElem?_map, lo_get l (Nat.le_refl _) hkn]
              rfl
            rw [List.getElem?_eq_getElem (by simp only [bs_length]; rw [hMl]; omega)] at h1
            exact Option.some.inj h1] at hc
          have hsame : ¬ (65 ≤ (l[k]'hkn).toNat ∧ (l[k]'hkn).toNat ≤ 90) → lo l k = lo l (k + 1) := fun h => (lo_same l hkn (lowB_not h)).symm
          have hgreat : 65 ≤ (l[k]'hkn).toNat ∧ (l[k]'hkn).toNat ≤ 90 → (lo l k).set k ((l[k]'hkn) + 32) = lo l (k + 1) := fun h => by rw [lo_next l hkn, (lowB_great h).1]
          have hsum : 65 ≤ (l[k]'hkn).toNat ∧ (l[k]'hkn).toNat ≤ 90 → (((l[k]'hkn) + 32 : UInt8).toNat : Int) = (l[k]'hkn).toNat - 65 + 97 := fun h => by have := lowB_great h; rw [this.1] at this; omega
          have e0 : decide ((k : Int) < l.length) = true := decT (by omega)
          have hbf : wr.frozen? (ad.add k) = false := by
            obtain ⟨_, e, _, f⟩ := hown.can k (by omega)
            cases e; exact f
          have hxlt := (l[k]'hkn).toNat_lt
          generalize (l[k]'hkn) = x at *
          by_cases hgr : 65 ≤ x.toNat ∧ x.toNat ≤ 90
          · have d1 : decide ((65 : Int) ≤ x.toNat) = true := decT (by omega)
            have d2 : decide ((x.toNat : Int) ≤ 90) = true := decT (by omega)
            have Hset := Lib.hid (hgreat hgr)
            have Hsum := Lib.hid (hsum hgr)
            have hxs : Ext (just ad.block) wr (wr.setCell (ad.add k) (.int .u8 ((x.toNat : Int) - 65 + 97))) := Ext.setCell _ _ _ (add_block _ _)
            have hown5 : Own (wr.setCell (ad.add k) (.int .u8 ((x.toNat : Int) - 65 + 97))) w.heap.size (some ad) 1 l.length c (bs (lo l (k + 1))) := by
              have := hown.set k (by omega) (.int .u8 ((x.toNat : Int) - 65 + 97))
              rw [← Hset.out]
              have e : bs ((lo l k).set k (x + 32)) = (bs (lo l k)).set k (.int .u8 ((x.toNat : Int) - 65 + 97)) := by
                unfold bs; rw [List.map_set]; congr 1; unfold B8; rw [Hsum.out]
              rw [e]; exact this
            have hx5 : Ext no w (wr.setCell (ad.add k) (.int .u8 ((x.toNat : Int) - 65 + 97))) := hx.trans hxs (fun i hi e => by simp only [Esc.just] at e; have := (hown.base ad rfl).1; omega)
            clear hsame hgreat hsum hown hx
            go_wp2_with fail
            go_roundw
            case rel => exact ⟨k + 1, by omega, by go_num, hown5, hx5⟩
            case measure => simp [intOf]; omega
          · have Hsm := Lib.hid (hsame hgr)
            clear hsame hgreat hsum
            have hown5 : Own wr w.heap.size (some ad) 1 l.length c (bs (lo l (k + 1))) := by rw [← Hsm.out]; exact hown
            clear hown
            by_cases h65 : 65 ≤ x.toNat
            · have d1 : decide ((65 : Int) ≤ x.toNat) = true := decT (by omega)
              have d2 : decide ((x.toNat : Int) ≤ 90) = false := decF (by omega)
              go_wp2_with fail
              go_roundw
              case rel => exact ⟨k + 1, by omega, by go_num, hown5, hx⟩
              case measure => simp [intOf]; omega
            · have d1 : decide ((65 : Int) ≤ x.toNat) = false := decF (by omega)
              go_wp2_with fail
              go_roundw
              case rel => exact ⟨k + 1, by omega, by go_num, hown5, hx⟩
              case measure => simp [intOf]; omega
      · have Hb := Lib.hid (show upErr 2 3 = 0 from h0)
        clear h0 d1 hlt
        have Htr := Lib.hid (show up l 2 3 = trimL (trimR (l)) from rfl)
        have hTl : (l).length ≤ 1099511627776 := hl
        have hxc := hx0
        clear hx0
        go_wp2_with fail
        go_loopw [0] (fun s0 wt => ∃ m : List UInt8, s0 = .string (str m) ∧ trimL m = trimL l ∧ m.length ≤ l.length ∧ Ext no w wt) (fun s0 _ => match s0 with | .string s => s.size | _ => 0)
        case atStart => exact ⟨l, rfl, rfl, Nat.le_refl _, hxc⟩
        case round =>
          clear hxc
          obtain ⟨m, rfl, hm, hml, hxc⟩ := hrel
          have Hm := Lib.hid hm
          clear hm
          cases hmc : m with
          | nil =>
            have Hd := Lib.hid (show trimL l = [] by rw [← Hm.out, hmc]; rfl)
            clear hmc
            go_wp2_with fail
            go_loopw [0] (fun s0 wu => ∃ m2 : List UInt8, s0 = .string (str m2) ∧ trimR m2 = trimR (trimL l) ∧ m2.length ≤ 1099511627776 ∧ Ext no w wu) (fun s0 _ => match s0 with | .string s => s.size | _ => 0)
            case atStart => exact ⟨[], rfl, by rw [Hd.out], by simp, hxc⟩
            case round =>
              clear Hd hxc
              obtain ⟨m2, rfl, hm2, hm2l, hxc⟩ := hrel
              have Hm2 := Lib.hid hm2
              clear hm2
              have hsz := str_size m2
              rcases List.eq_nil_or_concat m2 with hmc | ⟨t2, b2, hmc⟩
              · have Hd := Lib.hid (show up l 2 3 = [] by rw [Htr.out, trim_comm, ← Hm2.out, hmc]; rfl)
                subst hmc
                go_wp2_with fail
                go_ret2
                rw [Hb.out, Hd.out]
                exact ⟨rfl, hxc⟩
              · have hlen : m2.length = t2.length + 1 := by rw [hmc]; simp
                have hpos : decide (0 < m2.length) = true := decT (by omega)
                have hix : ∀ w, (Instr.index 9 (.string (str m2)) (.int .i64 ((m2.length : Int) - 1))).run Tryd.prog w = .ok (.int .u8 b2.toNat) w := fun w => by
                  rw [show (m2.length : Int) - 1 = (t2.length : Int) by omega]
                  exact str_index w m2 t2.length b2 (by rw [hmc]; simp)
                have hct : ∀ w, (Instr.sliceAt 9 (.string (str m2)) none (some (.int .i64 ((m2.length : Int) - 1))) none).run Tryd.prog w = .ok (.string (str t2)) w := fun w => by
                  rw [show (m2.length : Int) - 1 = (t2.length : Int) by omega, cut_to w m2 t2.length (by omega), hmc]
                  simp
                have hsz3 := str_size t2
                have Hlen := Lib.hid hlen
                by_cases hb : b2 = 32
                · have hb2 : ((b2.toNat : Int) == 32) = true := by rw [hb]; rfl
                  have Hn := Lib.hid (show trimR t2 = trimR (trimL l) by rw [← Hm2.out, hmc, List.concat_eq_append, trimR_snoc, if_pos hb])
                  have Hl := Lib.hid (show t2.length ≤ 1099511627776 by omega)
                  clear hb hmc hlen
                  go_wp2_with fail
                  go_roundw
                  case rel => exact ⟨t2, rfl, Hn.out, Hl.out, hxc⟩
                  case measure => have := Hlen.out; simp [hsz, hsz3]; omega
                · have hb2 : ((b2.toNat : Int) == 32) = false := by
                    rw [beq_eq_false_iff_ne]
                    intro e
                    exact hb (UInt8.toNat_inj.1 (by show b2.toNat = 32; omega))
                  have Hd := Lib.hid (show up l 2 3 = m2 by rw [Htr.out, trim_comm, ← Hm2.out, hmc, List.concat_eq_append, trimR_snoc, if_neg hb])
                  clear hb hmc hlen
                  go_wp2_with fail
                  go_ret2
                  rw [Hb.out, Hd.out]
                  exact ⟨rfl, hxc⟩
          | cons b t =>
            have hix : ∀ w, (Instr.index 9 (.string (str (b :: t))) (.int .i64 0)).run Tryd.prog w = .ok (.int .u8 b.toNat) w := fun w => str_index w (b :: t) 0 b rfl
            have hct : ∀ w, (Instr.sliceAt 9 (.string (str (b :: t))) (some (.int .i64 1)) none none).run Tryd.prog w = .ok (.string (str t)) w := fun w => cut_from w (b :: t) 1 (by simp)
            have hsz2 := str_size (b :: t)
            have hsz3 := str_size t
            by_cases hb : b = 32
            · have hb2 : ((b.toNat : Int) == 32) = true := by rw [hb]; rfl
              have Hn := Lib.hid (show trimL t = trimL l by rw [← Hm.out, hmc, trimL_cons, if_pos hb])
              have Hl := Lib.hid (show t.length ≤ l.length by rw [hmc] at hml; simp at hml; omega)
              clear hb hmc
              go_wp2_with fail
              go_roundw
              case rel => exact ⟨t, rfl, Hn.out, Hl.out, hxc⟩
              case measure => simp [hsz2, hsz3]
            · have hb2 : ((b.toNat : Int) == 32) = false := by
                rw [beq_eq_false_iff_ne]
                intro e
                exact hb (UInt8.toNat_inj.1 (by show b.toNat = 32; omega))
              have Hd := Lib.hid (show trimL l = b :: t by rw [← Hm.out, hmc, trimL_cons, if_neg hb])
              have hl3 : (b :: t).length ≤ 1099511627776 := by rw [hmc] at hml; omega
              clear hb hmc
              go_wp2_with fail
              clear hix hct hsz2 hsz3 hb2
              go_loopw [0] (fun s0 wu => ∃ m2 : List UInt8, s0 = .string (str m2) ∧ trimR m2 = trimR (trimL l) ∧ m2.length ≤ 1099511627776 ∧ Ext no w wu) (fun s0 _ => match s0 with | .string s => s.size | _ => 0)
              case atStart => exact ⟨b :: t, rfl, by rw [Hd.out], hl3, hxc⟩
              case round =>
                clear Hd hxc
                obtain ⟨m2, rfl, hm2, hm2l, hxc⟩ := hrel
                have Hm2 := Lib.hid hm2
                clear hm2
                have hsz := str_size m2
                rcases List.eq_nil_or_concat m2 with hmc | ⟨t2, b2, hmc⟩
                · have Hd := Lib.hid (show up l 2 3 = [] by rw [Htr.out, trim_comm, ← Hm2.out, hmc]; rfl)
                  subst hmc
                  go_wp2_with fail
                  go_ret2
                  rw [Hb.out, Hd.out]
                  exact ⟨rfl, hxc⟩
                · have hlen : m2.length = t2.length + 1 := by rw [hmc]; simp
                  have hpos : decide (0 < m2.length) = true := decT (by omega)
                  have hix : ∀ w, (Instr.index 9 (.string (str m2)) (.int .i64 ((m2.length : Int) - 1))).run Tryd.prog w = .ok (.int .u8 b2.toNat) w := fun w => by
                    rw [show (m2.length : Int) - 1 = (t2.length : Int) by omega]
                    exact str_index w m2 t2.length b2 (by rw [hmc]; simp)
                  have hct : ∀ w, (Instr.sliceAt 9 (.string (str m2)) none (some (.int .i64 ((m2.length : Int) - 1))) none).run Tryd.prog w = .ok (.string (str t2)) w := fun w => by
                    rw [show (m2.length : Int) - 1 = (t2.length : Int) by omega, cut_to w m2 t2.length (by omega), hmc]
                    simp
                  have hsz3 := str_size t2
                  have Hlen := Lib.hid hlen
                  by_cases hb : b2 = 32
                  · have hb2 : ((b2.toNat : Int) == 32) = true := by rw [hb]; rfl
                    have Hn := Lib.hid (show trimR t2 = trimR (trimL l) by rw [← Hm2.out, hmc, List.concat_eq_append, trimR_snoc, if_pos hb])
                    have Hl := Lib.hid (show t2.length ≤ 1099511627776 by omega)
                    clear hb hmc hlen
                    go_wp2_with fail
                    go_roundw
                    case rel => exact ⟨t2, rfl, Hn.out, Hl.out, hxc⟩
                    case measure => have := Hlen.out; simp [hsz, hsz3]; omega
                  · have hb2 : ((b2.toNat : Int) == 32) = false := by
                      rw [beq_eq_false_iff_ne]
                      intro e
                      exact hb (UInt8.toNat_inj.1 (by show b2.toNat = 32; omega))
                    have Hd := Lib.hid (show up l 2 3 = m2 by rw [Htr.out, trim_comm, ← Hm2.out, hmc, List.concat_eq_append, trimR_snoc, if_neg hb])
                    clear hb hmc hlen
                    go_wp2_with fail
                    go_ret2
                    rw [Hb.out, Hd.out]
                    exact ⟨rfl, hxc⟩
end Go.Proofs.YtcopnpkblcgocaaDoor
