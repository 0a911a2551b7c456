/- The walk of the law CodeBack. -/
import Derived.Test.YtnplelcnigpemaaLawA
import Derived.Test.YtnplelcnigpemaaLawB
import Derived.Test.YtnplelcnigpemaaPlainE
import Derived.Test.YtnplelcnigpemaaRegionB
import Derived.Test.YtnplelcnigpemaaOpenB
namespace Go.Proofs.Ytnplelcnigpemaa
open Go.RowKit Go.Esc
set_option linter.unusedVariables false

theorem flat_le {α : Type} (f : α → List UInt8) (c : Nat) : ∀ (l : List α), (∀ x ∈ l, (f x).length ≤ c) → (l.flatMap f).length ≤ l.length * c
  | [], h => by simp
  | x :: l, h => by
    have h1 := h x (by simp)
    have h2 := flat_le f c l (fun y hy => h y (by simp [hy]))
    rw [List.flatMap_cons, List.length_append, List.length_cons, Nat.succ_mul]
    omega
theorem flat_step {α : Type} (f : α → List UInt8) (l : List α) (k : Nat) (h : k < l.length) : (l.take (k + 1)).flatMap f = (l.take k).flatMap f ++ f l[k] := by
  rw [List.take_succ_eq_append_getElem h, List.flatMap_append, List.flatMap_singleton]
theorem encT_length (t : List UInt8) (h : t.length ≤ 200) : (encT t).length ≤ 210 := by
  have := (encI_length t.length ⟨by omega, by omega⟩).1
  unfold encT; rw [List.length_append]; omega
theorem encL_length (t : List Int) (h : t.length ≤ 50) (hok : ∀ n ∈ t, I64ok n) : (encL t).length ≤ 510 := by
  have := (encI_length t.length ⟨by omega, by omega⟩).1
  have h2 := flat_le encI 10 t (fun x hx => (encI_length x (hok x hx)).1)
  unfold encL; rw [List.length_append]; omega

theorem _root_.Go.Esc.Ext.no2 {g : Nat} {w w' w0 : World} (hx : Ext (just g) w0 w') (h : w.heap.size ≤ g) (h0 : Ext no w w0) : Ext no w w' := h0.trans hx (fun i hi h => by simp only [Esc.just] at h; omega)

theorem toList_str (l : List UInt8) : (str l).toList = l := by rw [ByteArray.toList_eq]; rfl

/-- What is read at round k, of bytes M. -/
def Round (k : Nat) (M : List UInt8) (m : Option (List UInt8)) : Prop := (k = 0 ∧ m = some []) ∨ (k = 1 ∧ m = some [7]) ∨ (k = 2 ∧ M = [] ∧ m = some []) ∨ (k = 2 ∧ M ≠ [] ∧ m = none)

theorem Round.fin {k : Nat} {M : List UInt8} {m : Option (List UInt8)} {s : RS} {ok : Bool} (h : Round k M m) (hs : Stand m [] s ok) :
    (k = 0 ∧ ok = true ∧ rEnd s = 0) ∨ (k = 1 ∧ ok = true ∧ rEnd s = 9) ∨ (k = 2 ∧ M = []) ∨ (k = 2 ∧ M ≠ [] ∧ rEnd s = 8) := by
  have hd := hs.done
  rcases h with ⟨h1, rfl⟩ | ⟨h1, rfl⟩ | ⟨h1, h2, rfl⟩ | ⟨h1, h2, rfl⟩
  · simp at hd; exact .inl ⟨h1, hd⟩
  · simp at hd; exact .inr (.inl ⟨h1, hd⟩)
  · exact .inr (.inr (.inl ⟨h1, h2⟩))
  · simp only at hd; exact .inr (.inr (.inr ⟨h1, h2, hd⟩))

set_option maxRecDepth 100000 in
set_option maxHeartbeats 4000000 in
theorem back_walk (w : World) (na : Option Addr) (ns : List Int) (nc : Nat) (sa : Option Addr) (ts : List (List UInt8)) (sc : Nat) (ra : Option Addr) (rs : List Row) (rc : Nat)
    (hnd : Rd w na (is ns)) (hnok : ∀ n ∈ ns, I64ok n) (hnl : ns.length ≤ nc) (hnc : nc ≤ maxLen) (hsd : Rd w sa (ss ts)) (hsok : ∀ t ∈ ts, t.length ≤ maxLen) (hsl : ts.length ≤ sc) (hsc : sc ≤ maxLen)
    (hrd : Rd w ra (rs.map Row.v)) (hrok : ∀ r ∈ rs, r.good w) (hrl : rs.length ≤ rc) (hrc : rc ≤ maxLen) :
    Calls Try.prog 11 #[.slice na ns.length nc, .slice sa ts.length sc, .slice ra rs.length rc] w fun e w' => e = .returned (.bool true) ∧ Ext no w w' := by
  have Hnok := Lib.hid hnok
  have Hsok := Lib.hid hsok
  have Hrok := Lib.hid hrok
  clear hnok hsok hrok
  unfold maxLen at hnc hsc hrc
  by_cases h20 : 20 < ns.length
  · have h1 : decide ((20 : Int) < ns.length) = true := by rw [decide_eq_true_eq]; omega
    go_enter Try.func11, Try.ntmps11
    go_wp2_with fail
    refine (known_any w).mono ?_
    rintro e w1 ⟨rfl, hext1⟩
    go_wp2_with fail
    go_ret
    exact ⟨rfl, hext1⟩
  have h1 : decide ((20 : Int) < ns.length) = false := by rw [decide_eq_false_iff_not]; omega
  by_cases h10 : 10 < ts.length
  · have h2 : decide ((10 : Int) < ts.length) = true := by rw [decide_eq_true_eq]; omega
    go_enter Try.func11, Try.ntmps11
    go_wp2_with fail
    refine (known_any w).mono ?_
    rintro e w1 ⟨rfl, hext1⟩
    go_wp2_with fail
    go_ret
    exact ⟨rfl, hext1⟩
  have h2 : decide ((10 : Int) < ts.length) = false := by rw [decide_eq_false_iff_not]; omega
  by_cases h11 : 10 < rs.length
  · have h3 : decide ((10 : Int) < rs.length) = true := by rw [decide_eq_true_eq]; omega
    go_enter Try.func11, Try.ntmps11
    go_wp2_with fail
    refine (known_any w).mono ?_
    rintro e w1 ⟨rfl, hext1⟩
    go_wp2_with fail
    go_ret
    exact ⟨rfl, hext1⟩
  have h3 : decide ((10 : Int) < rs.length) = false := by rw [decide_eq_false_iff_not]; omega
  go_enter Try.func11, Try.ntmps11
  go_wp2_with fail
  refine (known_any w).mono ?_
  rintro e w1 ⟨rfl, hext1⟩
  go_wp2_with fail
  go_loopw [7, 8] (fun s7 s8 wr => ∃ (k : Nat) (a : Option Addr) (c : Nat) (M : List UInt8), k ≤ ns.length ∧ s8 = .int .i64 k ∧ s7 = .slice a M.length c ∧ M = (ns.take k).flatMap encI ∧ M.length ≤ 10 * k ∧ M.length ≤ c ∧ Rd wr a (bs M) ∧ Ext no w wr) (fun _ s8 _ => ns.length - (intOf s8).toNat)
  case atStart => exact ⟨0, none, 0, [], Nat.zero_le _, rfl, rfl, rfl, by simp, Nat.le_refl _, Rd.nil _ _, hext1⟩
  case round =>
    clear hext1
    obtain ⟨k, a, c, M, hk, rfl, rfl, hM, hMl, hMc, hMd, hxr⟩ := hrel
    have HM := Lib.hid hM
    clear hM
    by_cases hlt : k < ns.length
    · obtain ⟨ad, rfl, _⟩ := hnd.ne (by simp; omega)
      have hcell := hxr.keeps (hnd.cell k (by simpa using hlt)) (fun h => h)
      rw [show (is ns)[k]'(by simpa using hlt) = .int .i64 ns[k] from by simp [is, I64]] at hcell
      have hq := Hnok.out ns[k] (by simp)
      have hst := flat_step encI ns k hlt
      rw [← HM.out] at hst
      have hlen := (encI_length ns[k] hq).1
      have Hq := Lib.hid hq
      have Hst := Lib.hid hst
      clear hq hst
      generalize ns[k] = q at *
      go_wp2_with fail
      refine (int_any wr a c M q hMd (by omega) Hq.out).mono ?_
      rintro e w2 ⟨a2, c2, rfl, hown, hx2⟩
      have hx := hxr.comp hx2
      have hrd2 := hown.rd
      have hcp2 := hown.nc
      have hml2 : (M ++ encI q).length ≤ 10 * (k + 1) := by rw [List.length_append]; omega
      clear hown hMd hxr hx2 hlen
      generalize M ++ encI q = M2 at *
      go_wp2_with fail
      go_roundw
      case rel => exact ⟨k + 1, a2, c2, M2, by omega, by go_num, rfl, Hst.out.symm, hml2, hcp2, hrd2, hx⟩
      case measure => simp [intOf]; omega
    · obtain rfl : k = ns.length := by omega
      rw [List.take_length] at HM
      go_wp2_with fail
      go_loopw [7, 9] (fun s7 s9 wr => ∃ (k : Nat) (a : Option Addr) (c : Nat) (M : List UInt8), k ≤ ts.length ∧ s9 = .int .i64 k ∧ s7 = .slice a M.length c ∧ M = ns.flatMap encI ++ (ts.take k).flatMap encT ∧ (∀ t ∈ ts.take k, t.length ≤ 200) ∧ M.length ≤ 200 + 210 * k ∧ M.length ≤ c ∧ Rd wr a (bs M) ∧ Ext no w wr) (fun _ s9 _ => ts.length - (intOf s9).toNat)
      case atStart => exact ⟨0, a, c, M, Nat.zero_le _, rfl, rfl, by rw [HM.out]; simp, by simp, by omega, hMc, hMd, hxr⟩
      case round =>
        clear hMd hxr HM hMl hMc
        obtain ⟨k, a, c, M, hk, rfl, rfl, hM, hts, hMl, hMc, hMd, hxr⟩ := hrel
        have HM := Lib.hid hM
        have Hts := Lib.hid hts
        clear hM hts
        by_cases hlt : k < ts.length
        · obtain ⟨ad, rfl, _⟩ := hsd.ne (by simp [ss]; omega)
          have hcell := hxr.keeps (hsd.cell k (by simpa [ss] using hlt)) (fun h => h)
          rw [show (ss ts)[k]'(by simpa [ss] using hlt) = .string (str ts[k]) from by simp [ss]] at hcell
          have hst := flat_step encT ts k hlt
          have htk : ts[k].length ≤ 200 → ∀ t ∈ ts.take (k + 1), t.length ≤ 200 := by
            intro h t ht
            rw [List.take_succ_eq_append_getElem hlt, List.mem_append, List.mem_singleton] at ht
            rcases ht with ht | rfl
            · exact Hts.out t ht
            · exact h
          have hml := Hsok.out ts[k] (by simp)
          have Hst := Lib.hid (show M ++ encT ts[k] = ns.flatMap encI ++ (ts.take (k + 1)).flatMap encT by rw [hst, ← List.append_assoc, ← HM.out])
          have Htk := Lib.hid htk
          clear hst htk
          generalize ts[k] = q at *
          have hsz := str_size q
          by_cases hlong : 200 < q.length
          · go_wp2_with fail
            go_ret
            exact ⟨rfl, hxr⟩
          · have hq200 : q.length ≤ 200 := by omega
            have hlen := encT_length q hq200
            go_wp2_with fail
            refine (text_any wr a c M q hMd (by omega) (by omega)).mono ?_
            rintro e w2 ⟨a2, c2, rfl, hown, hx2⟩
            have hx := hxr.comp hx2
            have hrd2 := hown.rd
            have hcp2 := hown.nc
            have hml2 : (M ++ encT q).length ≤ 200 + 210 * (k + 1) := by rw [List.length_append]; omega
            clear hown hMd hxr hx2 hlen
            generalize M ++ encT q = M2 at *
            go_wp2_with fail
            go_roundw
            case rel => exact ⟨k + 1, a2, c2, M2, by omega, by go_num, rfl, Hst.out, Htk.out hq200, hml2, hcp2, hrd2, hx⟩
            case measure => simp [intOf]; omega
        · obtain rfl : k = ts.length := by omega
          rw [List.take_length] at HM Hts
          go_wp2_with fail
          go_loopw [7, 10] (fun s7 s10 wr => ∃ (k : Nat) (a : Option Addr) (c : Nat) (M : List UInt8), k ≤ rs.length ∧ s10 = .int .i64 k ∧ s7 = .slice a M.length c ∧ M = ns.flatMap encI ++ ts.flatMap encT ++ (rs.take k).flatMap (fun r => encL r.l) ∧ (∀ r ∈ rs.take k, r.l.length ≤ 50) ∧ M.length ≤ 2300 + 510 * k ∧ M.length ≤ c ∧ Rd wr a (bs M) ∧ Ext no w wr) (fun _ s10 _ => rs.length - (intOf s10).toNat)
          case atStart => exact ⟨0, a, c, M, Nat.zero_le _, rfl, rfl, by rw [HM.out]; simp, by simp, by omega, hMc, hMd, hxr⟩
          case round =>
            clear hMd hxr HM hMl hMc
            obtain ⟨k, a, c, M, hk, rfl, rfl, hM, hrs, hMl, hMc, hMd, hxr⟩ := hrel
            have HM := Lib.hid hM
            have Hrs := Lib.hid hrs
            clear hM hrs
            by_cases hlt : k < rs.length
            · obtain ⟨ad, rfl, _⟩ := hrd.ne (by simp; omega)
              have hcell := hxr.keeps (hrd.cell k (by simpa using hlt)) (fun h => h)
              rw [show (rs.map Row.v)[k]'(by simpa using hlt) = .slice rs[k].a rs[k].l.length rs[k].c from by simp [Row.v]] at hcell
              have hst := flat_step (fun r : Row => encL r.l) rs k hlt
              have htk : rs[k].l.length ≤ 50 → ∀ r ∈ rs.take (k + 1), r.l.length ≤ 50 := by
                intro h t ht
                rw [List.take_succ_eq_append_getElem hlt, List.mem_append, List.mem_singleton] at ht
                rcases ht with ht | rfl
                · exact Hrs.out t ht
                · exact h
              have hgood := Hrok.out rs[k] (by simp)
              have Hst := Lib.hid (show M ++ encL rs[k].l = ns.flatMap encI ++ ts.flatMap encT ++ (rs.take (k + 1)).flatMap (fun r => encL r.l) by rw [hst, ← List.append_assoc, ← HM.out])
              have Htk := Lib.hid htk
              clear hst htk
              generalize rs[k] = r at *
              obtain ⟨ra', q, rc'⟩ := r
              obtain ⟨g1, g2, g3, g4⟩ := hgood
              simp only at g1 g2 g3 g4 Hst Htk hcell
              have G2 := Lib.hid g2
              clear g2
              by_cases hlong : 50 < q.length
              · go_wp2_with fail
                go_ret
                exact ⟨rfl, hxr⟩
              · have hq50 : q.length ≤ 50 := by omega
                have hlen := encL_length q hq50 G2.out
                go_wp2_with fail
                refine (ints_any wr a ra' c rc' M q hMd (by omega) (g1.ext hxr (fun _ _ h => h)) (by omega) G2.out).mono ?_
                rintro e w2 ⟨a2, c2, rfl, hown, hx2⟩
                have hx := hxr.comp hx2
                have hrd2 := hown.rd
                have hcp2 := hown.nc
                have hml2 : (M ++ encL q).length ≤ 2300 + 510 * (k + 1) := by rw [List.length_append]; omega
                clear hown hMd hxr hx2 hlen
                generalize M ++ encL q = M2 at *
                go_wp2_with fail
                go_roundw
                case rel => exact ⟨k + 1, a2, c2, M2, by omega, by go_num, rfl, Hst.out, Htk.out hq50, hml2, hcp2, hrd2, hx⟩
                case measure => simp [intOf]; omega
            · obtain rfl : k = rs.length := by omega
              rw [List.take_length] at HM Hrs
              have hMM : M.length ≤ 7500 := by omega
              clear Hsok
              obtain ⟨T, hT⟩ : ∃ T, T = ts.flatMap encT ++ rs.flatMap (fun r => encL r.l) := ⟨_, rfl⟩
              have HT := Lib.hid (show M = (ns.drop 0).flatMap encI ++ T by rw [hT, List.drop_zero, ← List.append_assoc]; exact HM.out)
              obtain ⟨U, hU⟩ : ∃ U, U = rs.flatMap (fun r => encL r.l) := ⟨_, rfl⟩
              have HTT := Lib.hid hT
              have HU := Lib.hid hU
              clear hT hU
              go_wp2_with fail
              go_loopw [11, 12, 13, 14, 15, 16, 17, 18] (fun s11 _ _ _ _ _ _ _ wr => ∃ k : Nat, k ≤ 3 ∧ s11 = .int .i64 k ∧ Rd wr a (bs M) ∧ Ext no w wr) (fun s11 _ _ _ _ _ _ _ _ => 3 - (intOf s11).toNat)
              case atStart => exact ⟨0, by omega, rfl, hMd, hxr⟩
              case round =>
                clear hMd hxr
                obtain ⟨k, hk3, rfl, hMd, hxr⟩ := hrel
                by_cases hlt : k < 3
                · have hk : k = 0 ∨ k = 1 ∨ (k = 2 ∧ M = []) ∨ (k = 2 ∧ M ≠ []) := by
                    by_cases hM : M = []
                    · simp [hM]; omega
                    · simp [hM]; omega
                  rcases hk with rfl | rfl | ⟨rfl, hM0⟩ | ⟨rfl, hM0⟩
                  focus
                    go_wp2_with fail
                    refine (new_any wr a c M hMd (by first | omega | (simp; omega))).mono ?_
                    rintro e w6 ⟨g, d, rfl, hr6, hg6, hd6, hx6⟩
                    have hx36 : Ext no wr w6 := hx6
                    obtain ⟨m, hm⟩ : ∃ m : Option (List UInt8), m = some [] := ⟨_, rfl⟩
                    have hst : Stand m ((ns.drop 0).flatMap encI ++ T) ⟨M, 0⟩ true := by rw [hm]; exact ⟨by rw [List.append_nil]; exact congrArg (RS.mk · 0) HT.out, rfl⟩
                    have hrnd : Round 0 M m := .inl ⟨rfl, hm⟩
                    have hgw : w.heap.size ≤ g := by have := hxr.size; omega
                    have hgr : wr.heap.size ≤ g := by omega
                    clear hm
                  rotate_left
                  focus
                    have hz : Own (wr.alloc (.cells #[] 5)) wr.heap.size (some ⟨wr.heap.size, 0, none⟩) 1 0 0 [] := Own.fresh wr _ _ _ _ _ _ _ _ (Nat.le_refl _) (by simp) (Nat.le_refl _) (Nat.zero_le _) (by simp) (by simp) (.inl (Nat.le_refl _))
                    go_wp2_with (at_builtin; refine wpList_append TBytes rfl rfl rfl hz rfl (hMd.alloc _) (by simp) (bs_one _) (by unfold maxLen; omega) (by omega) (by simp) ?_)
                    intro a4 c4 w4 happ
                    have hx34 : Ext no wr w4 := Ext.ofBelow (((Below.refl _ _).alloc (Nat.le_refl _) _).trans (hz.below happ.ext (by simp))) (Nat.le_refl _)
                    have hown4 := happ.own
                    rw [Nat.zero_add, List.nil_append] at hown4
                    clear happ hz
                    have hrd7 := Rd.one w4 (.int .u8 7) 5 (0, 0)
                    have hs34 := hx34.size
                    go_wp2_with (at_builtin; refine wpList_append TBytes rfl rfl rfl (hown4.alloc _) rfl hrd7 (by simp) (bs_one [7]) (by unfold maxLen; omega) (by omega) (by simp; omega) ?_)
                    intro a5 c5 w5 happ
                    have hx35 : Ext no wr w5 := Ext.ofBelow ((hx34.comp (Ext.alloc no _ _)).belowAll.trans ((hown4.alloc _).below happ.ext (by simp; omega))) (Nat.le_refl _)
                    have hXd := happ.own.rd
                    rw [show bs M ++ [Value.int .u8 7] = bs (M ++ [7]) from by simp [bs, B8]] at hXd
                    clear happ hown4 hrd7
                    have hs35 := hx35.size
                    go_wp2_with fail
                    rw [show M.length + 1 = (M ++ [7]).length from by simp]
                    refine (new_any w5 a5 c5 (M ++ [7]) hXd (by first | omega | (simp; omega))).mono ?_
                    rintro e w6 ⟨g, d, rfl, hr6, hg6, hd6, hx6⟩
                    have hx36 : Ext no wr w6 := hx35.comp hx6
                    obtain ⟨m, hm⟩ : ∃ m : Option (List UInt8), m = some [7] := ⟨_, rfl⟩
                    have hst : Stand m ((ns.drop 0).flatMap encI ++ T) ⟨(M ++ [7]), 0⟩ true := by rw [hm]; exact ⟨congrArg (RS.mk · 0) (by rw [← HT.out]), rfl⟩
                    have hrnd : Round 1 M m := .inr (.inl ⟨rfl, hm⟩)
                    have hgw : w.heap.size ≤ g := by have := hxr.size; omega
                    have hgr : wr.heap.size ≤ g := by omega
                    clear hm
                  rotate_left
                  focus
                    have hM0' : M.length = 0 := by rw [hM0]; rfl
                    have HM0 := Lib.hid hM0
                    have hM0d : decide (0 < M.length) = false := by rw [decide_eq_false_iff_not]; omega
                    clear hM0 hM0'
                    go_wp2_with fail
                    refine (new_any wr a c M hMd (by first | omega | (simp; omega))).mono ?_
                    rintro e w6 ⟨g, d, rfl, hr6, hg6, hd6, hx6⟩
                    have hx36 : Ext no wr w6 := hx6
                    obtain ⟨m, hm⟩ : ∃ m : Option (List UInt8), m = some [] := ⟨_, rfl⟩
                    have hst : Stand m ((ns.drop 0).flatMap encI ++ T) ⟨M, 0⟩ true := by rw [hm]; exact ⟨by rw [List.append_nil]; exact congrArg (RS.mk · 0) HT.out, rfl⟩
                    have hrnd : Round 2 M m := .inr (.inr (.inl ⟨rfl, HM0.out, hm⟩))
                    have hgw : w.heap.size ≤ g := by have := hxr.size; omega
                    have hgr : wr.heap.size ≤ g := by omega
                    clear hm
                  rotate_left
                  focus
                    have hM0' : 0 < M.length := by cases M with | nil => exact absurd rfl hM0 | cons x M => simp
                    have HM0 := Lib.hid hM0
                    have hM0d : decide (0 < M.length) = true := by rw [decide_eq_true_eq]; omega
                    clear hM0
                    go_wp2_with (first | (with_reducible show wpList _ _ _ _ _ _; refine wpList_cut_h TBytes rfl rfl rfl rfl (M.length - 1) (by omega) (by omega) ?_))
                    rw [show M.length - 1 = (M.take (M.length - 1)).length from by simp]
                    refine (new_any wr a c (M.take (M.length - 1)) (by rw [← bs_take]; exact hMd.take _) (by first | omega | (simp; omega))).mono ?_
                    rintro e w6 ⟨g, d, rfl, hr6, hg6, hd6, hx6⟩
                    have hx36 : Ext no wr w6 := hx6
                    obtain ⟨m, hm⟩ : ∃ m : Option (List UInt8), m = none := ⟨_, rfl⟩
                    have hst : Stand m ((ns.drop 0).flatMap encI ++ T) ⟨(M.take (M.length - 1)), 0⟩ true := by rw [hm]; exact .inr ⟨rfl, M.drop (M.length - 1), by intro h; have := congrArg List.length h; simp at this; omega, by rw [List.take_append_drop]; exact HT.out⟩
                    have hrnd : Round 2 M m := .inr (.inr (.inr ⟨rfl, HM0.out, hm⟩))
                    have hgw : w.heap.size ≤ g := by have := hxr.size; omega
                    have hgr : wr.heap.size ≤ g := by omega
                    clear hm
                  rotate_left
                  all_goals
                    have hMd6 := hMd.ext hx36 (fun _ _ h => h)
                    have hx06 := hxr.comp hx36
                    clear hxr hx6 hd6
                    go_wp2_with fail
                    go_loopw [14, 15] (fun s14 s15 wq => ∃ (j : Nat) (s : RS) (ok : Bool), j ≤ ns.length ∧ s15 = .int .i64 j ∧ s14 = .bool ok ∧ Rdr wq g d s.l s.e ∧ Stand m ((ns.drop j).flatMap encI ++ T) s ok ∧ Ext (just g) w6 wq) (fun _ s15 _ => ns.length - (intOf s15).toNat)
                    case atStart => exact ⟨0, _, true, Nat.zero_le _, rfl, rfl, hr6, hst, Ext.refl _ _⟩
                    case round =>
                      clear hr6 hst
                      obtain ⟨j, s, ok, hj, rfl, rfl, hr, hst, hxg⟩ := hrel
                      by_cases hlt : j < ns.length
                      · obtain ⟨ad, rfl, _⟩ := hnd.ne (by simp; omega)
                        have hokq := Hnok.out ns[j] (by simp)
                        have hstep : Stand m ((ns.drop (j + 1)).flatMap encI ++ T) (rInt s).2 (decide ((rInt s).1 = ns[j]) && ok) := by
                          refine Stand.int ns[j] hokq ?_
                          rw [← List.append_assoc, ← List.flatMap_cons, ← List.drop_eq_getElem_cons hlt]
                          exact hst
                        have hnw : ∀ x, Ext (just g) w6 x → Rd x (some ad) (is ns) := fun x hx => hnd.ext (hx.no2 hgw hx06) (fun _ _ h => h)
                        have hS0 := hnw _ (hxg.comp (Ext.drew _ _))
                        have Hok := Lib.hid hokq
                        have Hst := Lib.hid hstep
                        clear hst hstep hokq
                        by_cases he : (rInt s).1 = ns[j]
                        · have hbe : ((rInt s).1 == ns[j]) = true := by rw [beq_iff_eq]; exact he
                          have Hst2 := Lib.hid (show Stand m ((ns.drop (j + 1)).flatMap encI ++ T) (rInt s).2 ok by have := Hst.out; rwa [decide_eq_true he, Bool.true_and] at this)
                          clear he
                          go_upto_region 35 with fail
                          --<A
                          refine wp_region_E [5] (fun x => Rd x (some ad) (is ns)) (by kernel_rfl) ?_
                          refine wpE_take 0 (v := ?_) rfl (by kernel_rfl) (by kernel_rfl) (by kernel_rfl) (fun _ _ _ h => h) hS0 (by rfl) ?_ ?_
                          rotate_left
                          · (intro wq; go_simp; try with_reducible rfl)
                          simp only [Act.put, List.setIfInBounds_toArray, List.set_cons_zero, List.set_cons_succ]
                          refine wpE_take 2 (v := ?_) rfl (by kernel_rfl) (by kernel_rfl) (by kernel_rfl) (fun _ _ _ h => h) hS0 (by rfl) ?_ ?_
                          rotate_left
                          · (intro wq; go_simp; try with_reducible rfl)
                          simp only [Act.put, List.setIfInBounds_toArray, List.set_cons_zero, List.set_cons_succ]
                          refine wpE_take 3 (v := ?_) rfl (by kernel_rfl) (by kernel_rfl) (by kernel_rfl) (fun _ _ _ h => h) hS0 (by rfl) ?_ ?_
                          rotate_left
                          · (intro wq; go_simp; try with_reducible rfl)
                          simp only [Act.put, List.setIfInBounds_toArray, List.set_cons_zero, List.set_cons_succ]
                          refine wpE_take 4 (v := ?_) rfl (by kernel_rfl) (by kernel_rfl) (by kernel_rfl) (fun _ _ _ h => h) hS0 (by rfl) ?_ ?_
                          rotate_left
                          · (intro wq; go_simp; try with_reducible rfl)
                          simp only [Act.put, List.setIfInBounds_toArray, List.set_cons_zero, List.set_cons_succ]
                          refine wpE_look 5 (v := .int .i64 ns[j]) rfl rfl (by kernel_rfl) (by kernel_rfl) (by kernel_rfl) (by kernel_rfl) (fun _ _ _ h => h) hS0 (by rfl) (fun w hS => by have hc := hS.cell j (by simpa using hlt); rw [show (is ns)[j]'(by simpa using hlt) = .int .i64 ns[j] from by simp [is, I64]] at hc; go_simp) ?_
                          simp only [Act.put, List.setIfInBounds_toArray, List.set_cons_zero, List.set_cons_succ]
                          refine wpE_exec 1 rfl (by kernel_rfl) (by rfl) ?_
                          intro K hK
                          go_simp
                          refine (rdInt_any _ g s (hr.no (Ext.drew no _))).mono ?_
                          rintro e w7 ⟨rfl, hr7, hx7⟩
                          have hx7' := hxg.comp ((Ext.drew (just g) _).comp hx7)
                          have hS1 := hnw _ hx7'
                          refine hK _ _ (fun x => Rd x (some ad) (is ns)) (.inr (fun x h => h)) hS1 ?_
                          clear hK K
                          refine wpE_take 6 (v := ?_) rfl (by kernel_rfl) (by kernel_rfl) (by kernel_rfl) (fun _ _ _ h => h) hS1 (by rfl) ?_ ?_
                          rotate_left
                          · (intro wq; go_simp; try with_reducible rfl)
                          simp only [Act.put, List.setIfInBounds_toArray, List.set_cons_zero, List.set_cons_succ]
                          refine wpE_take 7 (v := ?_) rfl (by kernel_rfl) (by kernel_rfl) (by kernel_rfl) (fun _ _ _ h => h) hS1 (by rfl) ?_ ?_
                          rotate_left
                          · (intro wq; go_simp; try with_reducible rfl)
                          simp only [Act.put, List.setIfInBounds_toArray, List.set_cons_zero, List.set_cons_succ]
                          refine wpE_take 8 (v := ?_) rfl (by kernel_rfl) (by kernel_rfl) (by kernel_rfl) (fun _ _ _ h => h) hS1 (by rfl) ?_ ?_
                          rotate_left
                          · (intro wq; go_simp; try with_reducible rfl)
                          simp only [Act.put, List.setIfInBounds_toArray, List.set_cons_zero, List.set_cons_succ]
                          refine wpE_take 9 (v := ?_) rfl (by kernel_rfl) (by kernel_rfl) (by kernel_rfl) (fun _ _ _ h => h) hS1 (by rfl) ?_ ?_
                          rotate_left
                          · (intro wq; go_simp; try with_reducible rfl)
                          simp only [Act.put, List.setIfInBounds_toArray, List.set_cons_zero, List.set_cons_succ]
                          refine wpE_take 10 (v := ?_) rfl (by kernel_rfl) (by kernel_rfl) (by kernel_rfl) (fun _ _ _ h => h) hS1 (by rfl) ?_ ?_
                          rotate_left
                          · (intro wq; go_simp; try with_reducible rfl)
                          simp only [Act.put, List.setIfInBounds_toArray, List.set_cons_zero, List.set_cons_succ]
                          refine wpE_done (by kernel_rfl) ?_ _
                          go_wp2_with fail
                          go_roundw
                          case rel => exact ⟨j + 1, _, ok, by omega, by go_num, rfl, hr7, Hst2.out, hx7'⟩
                          case measure => simp [intOf]; omega
                          -->A
                        · have hbe : ((rInt s).1 == ns[j]) = false := by rw [beq_eq_false_iff_ne]; exact he
                          have Hst2 := Lib.hid (show Stand m ((ns.drop (j + 1)).flatMap encI ++ T) (rInt s).2 false by have := Hst.out; rwa [decide_eq_false he, Bool.false_and] at this)
                          clear he
                          go_upto_region 35 with fail
                          --<B
                          refine wp_region_E [5] (fun x => Rd x (some ad) (is ns)) (by kernel_rfl) ?_
                          refine wpE_take 0 (v := ?_) rfl (by kernel_rfl) (by kernel_rfl) (by kernel_rfl) (fun _ _ _ h => h) hS0 (by rfl) ?_ ?_
                          rotate_left
                          · (intro wq; go_simp; try with_reducible rfl)
                          simp only [Act.put, List.setIfInBounds_toArray, List.set_cons_zero, List.set_cons_succ]
                          refine wpE_take 2 (v := ?_) rfl (by kernel_rfl) (by kernel_rfl) (by kernel_rfl) (fun _ _ _ h => h) hS0 (by rfl) ?_ ?_
                          rotate_left
                          · (intro wq; go_simp; try with_reducible rfl)
                          simp only [Act.put, List.setIfInBounds_toArray, List.set_cons_zero, List.set_cons_succ]
                          refine wpE_take 3 (v := ?_) rfl (by kernel_rfl) (by kernel_rfl) (by kernel_rfl) (fun _ _ _ h => h) hS0 (by rfl) ?_ ?_
                          rotate_left
                          · (intro wq; go_simp; try with_reducible rfl)
                          simp only [Act.put, List.setIfInBounds_toArray, List.set_cons_zero, List.set_cons_succ]
                          refine wpE_take 4 (v := ?_) rfl (by kernel_rfl) (by kernel_rfl) (by kernel_rfl) (fun _ _ _ h => h) hS0 (by rfl) ?_ ?_
                          rotate_left
                          · (intro wq; go_simp; try with_reducible rfl)
                          simp only [Act.put, List.setIfInBounds_toArray, List.set_cons_zero, List.set_cons_succ]
                          refine wpE_look 5 (v := .int .i64 ns[j]) rfl rfl (by kernel_rfl) (by kernel_rfl) (by kernel_rfl) (by kernel_rfl) (fun _ _ _ h => h) hS0 (by rfl) (fun w hS => by have hc := hS.cell j (by simpa using hlt); rw [show (is ns)[j]'(by simpa using hlt) = .int .i64 ns[j] from by simp [is, I64]] at hc; go_simp) ?_
                          simp only [Act.put, List.setIfInBounds_toArray, List.set_cons_zero, List.set_cons_succ]
                          refine wpE_exec 1 rfl (by kernel_rfl) (by rfl) ?_
                          intro K hK
                          go_simp
                          refine (rdInt_any _ g s (hr.no (Ext.drew no _))).mono ?_
                          rintro e w7 ⟨rfl, hr7, hx7⟩
                          have hx7' := hxg.comp ((Ext.drew (just g) _).comp hx7)
                          have hS1 := hnw _ hx7'
                          refine hK _ _ (fun x => Rd x (some ad) (is ns)) (.inr (fun x h => h)) hS1 ?_
                          clear hK K
                          refine wpE_take 6 (v := ?_) rfl (by kernel_rfl) (by kernel_rfl) (by kernel_rfl) (fun _ _ _ h => h) hS1 (by rfl) ?_ ?_
                          rotate_left
                          · (intro wq; go_simp; try with_reducible rfl)
                          simp only [Act.put, List.setIfInBounds_toArray, List.set_cons_zero, List.set_cons_succ]
                          refine wpE_take 7 (v := ?_) rfl (by kernel_rfl) (by kernel_rfl) (by kernel_rfl) (fun _ _ _ h => h) hS1 (by rfl) ?_ ?_
                          rotate_left
                          · (intro wq; go_simp; try with_reducible rfl)
                          simp only [Act.put, List.setIfInBounds_toArray, List.set_cons_zero, List.set_cons_succ]
                          refine wpE_skip 8 rfl (by kernel_rfl) (by kernel_rfl) (by kernel_rfl) (fun _ _ _ h => h) hS1 (by rfl) ?_
                          simp only [Act.put, List.setIfInBounds_toArray, List.set_cons_zero, List.set_cons_succ]
                          refine wpE_take 9 (v := ?_) rfl (by kernel_rfl) (by kernel_rfl) (by kernel_rfl) (fun _ _ _ h => h) hS1 (by rfl) ?_ ?_
                          rotate_left
                          · (intro wq; go_simp; try with_reducible rfl)
                          simp only [Act.put, List.setIfInBounds_toArray, List.set_cons_zero, List.set_cons_succ]
                          refine wpE_take 10 (v := ?_) rfl (by kernel_rfl) (by kernel_rfl) (by kernel_rfl) (fun _ _ _ h => h) hS1 (by rfl) ?_ ?_
                          rotate_left
                          · (intro wq; go_simp; try with_reducible rfl)
                          simp only [Act.put, List.setIfInBounds_toArray, List.set_cons_zero, List.set_cons_succ]
                          refine wpE_done (by kernel_rfl) ?_ _
                          go_wp2_with fail
                          go_roundw
                          case rel => exact ⟨j + 1, _, false, by omega, by go_num, rfl, hr7, Hst2.out, hx7'⟩
                          case measure => simp [intOf]; omega
                          -->B
                      · obtain rfl : j = ns.length := by omega
                        rw [List.drop_length, List.flatMap_nil, List.nil_append] at hst
                        go_wp2_with fail
                        go_loopw [14, 16] (fun s14 s16 wq => ∃ (j : Nat) (s : RS) (ok : Bool), j ≤ ts.length ∧ s16 = .int .i64 j ∧ s14 = .bool ok ∧ Rdr wq g d s.l s.e ∧ Stand m ((ts.drop j).flatMap encT ++ U) s ok ∧ Ext (just g) w6 wq) (fun _ s16 _ => ts.length - (intOf s16).toNat)
                        case atStart => exact ⟨0, s, ok, Nat.zero_le _, rfl, rfl, hr, by rw [List.drop_zero, HU.out, ← HTT.out]; exact hst, hxg⟩
                        case round =>
                          clear hr hst hxg
                          obtain ⟨j, s, ok, hj, rfl, rfl, hr, hst, hxg⟩ := hrel
                          by_cases hlt : j < ts.length
                          · obtain ⟨ad, rfl, _⟩ := hsd.ne (by simp [ss]; omega)
                            have hokq : ts[j].length ≤ 200 := Hts.out _ (by simp)
                            have hstep : Stand m ((ts.drop (j + 1)).flatMap encT ++ U) (rText s).2 (decide ((rText s).1 = ts[j]) && ok) := by
                              refine Stand.text ts[j] (by omega) ?_
                              rw [← List.append_assoc, ← List.flatMap_cons, ← List.drop_eq_getElem_cons hlt]
                              exact hst
                            have hnw : ∀ x, Ext (just g) w6 x → Rd x (some ad) (ss ts) := fun x hx => hsd.ext (hx.no2 hgw hx06) (fun _ _ h => h)
                            have hS0 := hnw _ (hxg.comp (Ext.drew _ _))
                            have Hst := Lib.hid hstep
                            clear hst hstep hokq
                            by_cases he : (rText s).1 = ts[j]
                            · have He := Lib.hid he
                              have Hst2 := Lib.hid (show Stand m ((ts.drop (j + 1)).flatMap encT ++ U) (rText s).2 ok by have := Hst.out; rwa [decide_eq_true he, Bool.true_and] at this)
                              clear he
                              go_upto_region 39 with fail
                              --<C
                              refine wp_region_E [5] (fun x => Rd x (some ad) (ss ts)) (by kernel_rfl) ?_
                              refine wpE_take 0 (v := ?_) rfl (by kernel_rfl) (by kernel_rfl) (by kernel_rfl) (fun _ _ _ h => h) hS0 (by rfl) ?_ ?_
                              rotate_left
                              · (intro wq; go_simp; try with_reducible rfl)
                              simp only [Act.put, List.setIfInBounds_toArray, List.set_cons_zero, List.set_cons_succ]
                              refine wpE_take 2 (v := ?_) rfl (by kernel_rfl) (by kernel_rfl) (by kernel_rfl) (fun _ _ _ h => h) hS0 (by rfl) ?_ ?_
                              rotate_left
                              · (intro wq; go_simp; try with_reducible rfl)
                              simp only [Act.put, List.setIfInBounds_toArray, List.set_cons_zero, List.set_cons_succ]
                              refine wpE_take 3 (v := ?_) rfl (by kernel_rfl) (by kernel_rfl) (by kernel_rfl) (fun _ _ _ h => h) hS0 (by rfl) ?_ ?_
                              rotate_left
                              · (intro wq; go_simp; try with_reducible rfl)
                              simp only [Act.put, List.setIfInBounds_toArray, List.set_cons_zero, List.set_cons_succ]
                              refine wpE_take 4 (v := ?_) rfl (by kernel_rfl) (by kernel_rfl) (by kernel_rfl) (fun _ _ _ h => h) hS0 (by rfl) ?_ ?_
                              rotate_left
                              · (intro wq; go_simp; try with_reducible rfl)
                              simp only [Act.put, List.setIfInBounds_toArray, List.set_cons_zero, List.set_cons_succ]
                              refine wpE_look 5 (v := .string (str ts[j])) rfl rfl (by kernel_rfl) (by kernel_rfl) (by kernel_rfl) (by kernel_rfl) (fun _ _ _ h => h) hS0 (by rfl) (fun w hS => by have hc := hS.cell j (by simpa [ss] using hlt); rw [show (ss ts)[j]'(by simpa [ss] using hlt) = .string (str ts[j]) from by simp [ss]] at hc; go_simp) ?_
                              simp only [Act.put, List.setIfInBounds_toArray, List.set_cons_zero, List.set_cons_succ]
                              refine wpE_exec 1 rfl (by kernel_rfl) (by rfl) ?_
                              intro K hK
                              go_simp
                              refine (rdText_any _ g s (hr.no (Ext.drew no _))).mono ?_
                              rintro e w7 ⟨rfl, hr7, hx7⟩
                              have hx7' := hxg.comp ((Ext.drew (just g) _).comp hx7)
                              have hS1 := hnw _ hx7'
                              refine hK _ _ (fun x => Rd x (some ad) (ss ts)) (.inr (fun x h => h)) hS1 ?_
                              clear hK K
                              refine wpE_take 6 (v := .bool true) rfl (by kernel_rfl) (by kernel_rfl) (by kernel_rfl) (fun _ _ _ h => h) hS1 (by rfl) (by intro wq; go_simp; rw [toList_str, toList_str]; exact He.out) ?_
                              simp only [Act.put, List.setIfInBounds_toArray, List.set_cons_zero, List.set_cons_succ]
                              refine wpE_take 7 (v := ?_) rfl (by kernel_rfl) (by kernel_rfl) (by kernel_rfl) (fun _ _ _ h => h) hS1 (by rfl) ?_ ?_
                              rotate_left
                              · (intro wq; go_simp; try with_reducible rfl)
                              simp only [Act.put, List.setIfInBounds_toArray, List.set_cons_zero, List.set_cons_succ]
                              refine wpE_take 8 (v := ?_) rfl (by kernel_rfl) (by kernel_rfl) (by kernel_rfl) (fun _ _ _ h => h) hS1 (by rfl) ?_ ?_
                              rotate_left
                              · (intro wq; go_simp; try with_reducible rfl)
                              simp only [Act.put, List.setIfInBounds_toArray, List.set_cons_zero, List.set_cons_succ]
                              refine wpE_take 9 (v := ?_) rfl (by kernel_rfl) (by kernel_rfl) (by kernel_rfl) (fun _ _ _ h => h) hS1 (by rfl) ?_ ?_
                              rotate_left
                              · (intro wq; go_simp; try with_reducible rfl)
                              simp only [Act.put, List.setIfInBounds_toArray, List.set_cons_zero, List.set_cons_succ]
                              refine wpE_take 10 (v := ?_) rfl (by kernel_rfl) (by kernel_rfl) (by kernel_rfl) (fun _ _ _ h => h) hS1 (by rfl) ?_ ?_
                              rotate_left
                              · (intro wq; go_simp; try with_reducible rfl)
                              simp only [Act.put, List.setIfInBounds_toArray, List.set_cons_zero, List.set_cons_succ]
                              refine wpE_done (by kernel_rfl) ?_ _
                              go_wp2_with fail
                              go_roundw
                              case rel => exact ⟨j + 1, _, ok, by omega, by go_num, rfl, hr7, Hst2.out, hx7'⟩
                              case measure => simp [intOf]; omega
                              -->C
                            · have He := Lib.hid he
                              have Hst2 := Lib.hid (show Stand m ((ts.drop (j + 1)).flatMap encT ++ U) (rText s).2 false by have := Hst.out; rwa [decide_eq_false he, Bool.false_and] at this)
                              clear he
                              go_upto_region 39 with fail
                              --<D
                              refine wp_region_E [5] (fun x => Rd x (some ad) (ss ts)) (by kernel_rfl) ?_
                              refine wpE_take 0 (v := ?_) rfl (by kernel_rfl) (by kernel_rfl) (by kernel_rfl) (fun _ _ _ h => h) hS0 (by rfl) ?_ ?_
                              rotate_left
                              · (intro wq; go_simp; try with_reducible rfl)
                              simp only [Act.put, List.setIfInBounds_toArray, List.set_cons_zero, List.set_cons_succ]
                              refine wpE_take 2 (v := ?_) rfl (by kernel_rfl) (by kernel_rfl) (by kernel_rfl) (fun _ _ _ h => h) hS0 (by rfl) ?_ ?_
                              rotate_left
                              · (intro wq; go_simp; try with_reducible rfl)
                              simp only [Act.put, List.setIfInBounds_toArray, List.set_cons_zero, List.set_cons_succ]
                              refine wpE_take 3 (v := ?_) rfl (by kernel_rfl) (by kernel_rfl) (by kernel_rfl) (fun _ _ _ h => h) hS0 (by rfl) ?_ ?_
                              rotate_left
                              · (intro wq; go_simp; try with_reducible rfl)
                              simp only [Act.put, List.setIfInBounds_toArray, List.set_cons_zero, List.set_cons_succ]
                              refine wpE_take 4 (v := ?_) rfl (by kernel_rfl) (by kernel_rfl) (by kernel_rfl) (fun _ _ _ h => h) hS0 (by rfl) ?_ ?_
                              rotate_left
                              · (intro wq; go_simp; try with_reducible rfl)
                              simp only [Act.put, List.setIfInBounds_toArray, List.set_cons_zero, List.set_cons_succ]
                              refine wpE_look 5 (v := .string (str ts[j])) rfl rfl (by kernel_rfl) (by kernel_rfl) (by kernel_rfl) (by kernel_rfl) (fun _ _ _ h => h) hS0 (by rfl) (fun w hS => by have hc := hS.cell j (by simpa [ss] using hlt); rw [show (ss ts)[j]'(by simpa [ss] using hlt) = .string (str ts[j]) from by simp [ss]] at hc; go_simp) ?_
                              simp only [Act.put, List.setIfInBounds_toArray, List.set_cons_zero, List.set_cons_succ]
                              refine wpE_exec 1 rfl (by kernel_rfl) (by rfl) ?_
                              intro K hK
                              go_simp
                              refine (rdText_any _ g s (hr.no (Ext.drew no _))).mono ?_
                              rintro e w7 ⟨rfl, hr7, hx7⟩
                              have hx7' := hxg.comp ((Ext.drew (just g) _).comp hx7)
                              have hS1 := hnw _ hx7'
                              refine hK _ _ (fun x => Rd x (some ad) (ss ts)) (.inr (fun x h => h)) hS1 ?_
                              clear hK K
                              refine wpE_take 6 (v := .bool false) rfl (by kernel_rfl) (by kernel_rfl) (by kernel_rfl) (fun _ _ _ h => h) hS1 (by rfl) (by intro wq; go_simp; rw [toList_str, toList_str]; exact He.out) ?_
                              simp only [Act.put, List.setIfInBounds_toArray, List.set_cons_zero, List.set_cons_succ]
                              refine wpE_take 7 (v := ?_) rfl (by kernel_rfl) (by kernel_rfl) (by kernel_rfl) (fun _ _ _ h => h) hS1 (by rfl) ?_ ?_
                              rotate_left
                              · (intro wq; go_simp; try with_reducible rfl)
                              simp only [Act.put, List.setIfInBounds_toArray, List.set_cons_zero, List.set_cons_succ]
                              refine wpE_skip 8 rfl (by kernel_rfl) (by kernel_rfl) (by kernel_rfl) (fun _ _ _ h => h) hS1 (by rfl) ?_
                              simp only [Act.put, List.setIfInBounds_toArray, List.set_cons_zero, List.set_cons_succ]
                              refine wpE_take 9 (v := ?_) rfl (by kernel_rfl) (by kernel_rfl) (by kernel_rfl) (fun _ _ _ h => h) hS1 (by rfl) ?_ ?_
                              rotate_left
                              · (intro wq; go_simp; try with_reducible rfl)
                              simp only [Act.put, List.setIfInBounds_toArray, List.set_cons_zero, List.set_cons_succ]
                              refine wpE_take 10 (v := ?_) rfl (by kernel_rfl) (by kernel_rfl) (by kernel_rfl) (fun _ _ _ h => h) hS1 (by rfl) ?_ ?_
                              rotate_left
                              · (intro wq; go_simp; try with_reducible rfl)
                              simp only [Act.put, List.setIfInBounds_toArray, List.set_cons_zero, List.set_cons_succ]
                              refine wpE_done (by kernel_rfl) ?_ _
                              go_wp2_with fail
                              go_roundw
                              case rel => exact ⟨j + 1, _, false, by omega, by go_num, rfl, hr7, Hst2.out, hx7'⟩
                              case measure => simp [intOf]; omega
                              -->D
                          · obtain rfl : j = ts.length := by omega
                            rw [List.drop_length, List.flatMap_nil, List.nil_append] at hst
                            go_wp2_with fail
                            go_loopw [14, 17] (fun s14 s17 wq => ∃ (j : Nat) (s : RS) (ok : Bool), j ≤ rs.length ∧ s17 = .int .i64 j ∧ s14 = .bool ok ∧ Rdr wq g d s.l s.e ∧ Stand m ((rs.drop j).flatMap (fun r => encL r.l)) s ok ∧ Ext (just g) w6 wq) (fun _ s17 _ => rs.length - (intOf s17).toNat)
                            case atStart => exact ⟨0, s, ok, Nat.zero_le _, rfl, rfl, hr, by rw [List.drop_zero, ← HU.out]; exact hst, hxg⟩
                            case round =>
                              clear hr hst hxg
                              obtain ⟨j, s, ok, hj, rfl, rfl, hr, hst, hxg⟩ := hrel
                              by_cases hlt : j < rs.length
                              · obtain ⟨ad, rfl, _⟩ := hrd.ne (by simp; omega)
                                have hokq : rs[j].l.length ≤ 50 := Hrs.out _ (by simp)
                                obtain ⟨g1, g2, g3, g4⟩ := Hrok.out rs[j] (by simp)
                                have hstep : Stand m ((rs.drop (j + 1)).flatMap (fun r => encL r.l)) (rInts s).2 (decide ((rInts s).1 = rs[j].l) && ok) := by
                                  refine Stand.ints rs[j].l (by omega) g2 ?_
                                  rw [List.drop_eq_getElem_cons hlt, List.flatMap_cons] at hst
                                  exact hst
                                have hnw : ∀ x, Ext (just g) w6 x → Rd x (some ad) (rs.map Row.v) := fun x hx => hrd.ext (hx.no2 hgw hx06) (fun _ _ h => h)
                                have hgd : ∀ x, Ext (just g) w6 x → Rd x rs[j].a (is rs[j].l) := fun x hx => g1.ext (hx.no2 hgw hx06) (fun _ _ h => h)
                                have hS0 := hnw _ (hxg.comp (Ext.drew _ _))
                                have hln := rInts_len s
                                have Hst := Lib.hid hstep
                                clear hst hstep g1 g2 g3 g4
                                by_cases he : (rInts s).1 = rs[j].l
                                · have He := Lib.hid he
                                  have Hst2 := Lib.hid (show Stand m ((rs.drop (j + 1)).flatMap (fun r => encL r.l)) (rInts s).2 ok by have := Hst.out; rwa [decide_eq_true he, Bool.true_and] at this)
                                  clear he
                                  go_upto_region 43 with fail
                                  --<E
                                  refine wp_region_E [5] (fun x => Rd x (some ad) (rs.map Row.v)) (by kernel_rfl) ?_
                                  refine wpE_take 0 (v := ?_) rfl (by kernel_rfl) (by kernel_rfl) (by kernel_rfl) (fun _ _ _ h => h) hS0 (by rfl) ?_ ?_
                                  rotate_left
                                  · (intro wq; go_simp; try with_reducible rfl)
                                  simp only [Act.put, List.setIfInBounds_toArray, List.set_cons_zero, List.set_cons_succ]
                                  refine wpE_take 2 (v := ?_) rfl (by kernel_rfl) (by kernel_rfl) (by kernel_rfl) (fun _ _ _ h => h) hS0 (by rfl) ?_ ?_
                                  rotate_left
                                  · (intro wq; go_simp; try with_reducible rfl)
                                  simp only [Act.put, List.setIfInBounds_toArray, List.set_cons_zero, List.set_cons_succ]
                                  refine wpE_take 3 (v := ?_) rfl (by kernel_rfl) (by kernel_rfl) (by kernel_rfl) (fun _ _ _ h => h) hS0 (by rfl) ?_ ?_
                                  rotate_left
                                  · (intro wq; go_simp; try with_reducible rfl)
                                  simp only [Act.put, List.setIfInBounds_toArray, List.set_cons_zero, List.set_cons_succ]
                                  refine wpE_take 4 (v := ?_) rfl (by kernel_rfl) (by kernel_rfl) (by kernel_rfl) (fun _ _ _ h => h) hS0 (by rfl) ?_ ?_
                                  rotate_left
                                  · (intro wq; go_simp; try with_reducible rfl)
                                  simp only [Act.put, List.setIfInBounds_toArray, List.set_cons_zero, List.set_cons_succ]
                                  refine wpE_look 5 (v := .slice rs[j].a rs[j].l.length rs[j].c) rfl rfl (by kernel_rfl) (by kernel_rfl) (by kernel_rfl) (by kernel_rfl) (fun _ _ _ h => h) hS0 (by rfl) (fun w hS => by have hc := hS.cell j (by simpa using hlt); rw [show (rs.map Row.v)[j]'(by simpa using hlt) = .slice rs[j].a rs[j].l.length rs[j].c from by simp [Row.v]] at hc; go_simp) ?_
                                  simp only [Act.put, List.setIfInBounds_toArray, List.set_cons_zero, List.set_cons_succ]
                                  refine wpE_exec 1 rfl (by kernel_rfl) (by rfl) ?_
                                  intro K hK
                                  go_simp
                                  refine (rdInts_any _ g s (hr.no (Ext.drew no _))).mono ?_
                                  rintro e w7 ⟨a5, c5, rfl, hrd5, hfr5, hr7, hx7⟩
                                  have hx7' := hxg.comp ((Ext.drew (just g) _).comp hx7)
                                  have hS1 := hnw _ hx7'
                                  refine hK _ _ (fun x => Rd x (some ad) (rs.map Row.v)) (.inr (fun x h => h)) hS1 ?_
                                  clear hK K
                                  refine wpE_exec 6 rfl (by kernel_rfl) (by rfl) ?_
                                  intro K hK
                                  go_simp
                                  refine (lists_any w7 a5 rs[j].a c5 rs[j].c (rInts s).1 rs[j].l hrd5 (hgd _ hx7') (by omega) (by omega)).mono ?_
                                  rintro e w9 ⟨rfl, hx9⟩
                                  rw [decide_eq_true He.out]
                                  have hr9 := hr7.no hx9
                                  have hx9' := hxg.comp ((Ext.drew (just g) _).comp (hx7.comp (hx9.mono (fun _ _ h => h.elim))))
                                  have hS2 := hnw _ hx9'
                                  refine hK _ _ (fun x => Rd x (some ad) (rs.map Row.v)) (.inr (fun x h => h)) hS2 ?_
                                  clear hK K
                                  refine wpE_take 7 (v := ?_) rfl (by kernel_rfl) (by kernel_rfl) (by kernel_rfl) (fun _ _ _ h => h) hS2 (by rfl) ?_ ?_
                                  rotate_left
                                  · (intro wq; go_simp; try with_reducible rfl)
                                  simp only [Act.put, List.setIfInBounds_toArray, List.set_cons_zero, List.set_cons_succ]
                                  refine wpE_take 8 (v := ?_) rfl (by kernel_rfl) (by kernel_rfl) (by kernel_rfl) (fun _ _ _ h => h) hS2 (by rfl) ?_ ?_
                                  rotate_left
                                  · (intro wq; go_simp; try with_reducible rfl)
                                  simp only [Act.put, List.setIfInBounds_toArray, List.set_cons_zero, List.set_cons_succ]
                                  refine wpE_take 9 (v := ?_) rfl (by kernel_rfl) (by kernel_rfl) (by kernel_rfl) (fun _ _ _ h => h) hS2 (by rfl) ?_ ?_
                                  rotate_left
                                  · (intro wq; go_simp; try with_reducible rfl)
                                  simp only [Act.put, List.setIfInBounds_toArray, List.set_cons_zero, List.set_cons_succ]
                                  refine wpE_take 10 (v := ?_) rfl (by kernel_rfl) (by kernel_rfl) (by kernel_rfl) (fun _ _ _ h => h) hS2 (by rfl) ?_ ?_
                                  rotate_left
                                  · (intro wq; go_simp; try with_reducible rfl)
                                  simp only [Act.put, List.setIfInBounds_toArray, List.set_cons_zero, List.set_cons_succ]
                                  refine wpE_done (by kernel_rfl) ?_ _
                                  go_wp2_with fail
                                  go_roundw
                                  case rel => exact ⟨j + 1, _, ok, by omega, by go_num, rfl, hr9, Hst2.out, hx9'⟩
                                  case measure => simp [intOf]; omega
                                  -->E
                                · have He := Lib.hid he
                                  have Hst2 := Lib.hid (show Stand m ((rs.drop (j + 1)).flatMap (fun r => encL r.l)) (rInts s).2 false by have := Hst.out; rwa [decide_eq_false he, Bool.false_and] at this)
                                  clear he
                                  go_upto_region 43 with fail
                                  --<F
                                  refine wp_region_E [5] (fun x => Rd x (some ad) (rs.map Row.v)) (by kernel_rfl) ?_
                                  refine wpE_take 0 (v := ?_) rfl (by kernel_rfl) (by kernel_rfl) (by kernel_rfl) (fun _ _ _ h => h) hS0 (by rfl) ?_ ?_
                                  rotate_left
                                  · (intro wq; go_simp; try with_reducible rfl)
                                  simp only [Act.put, List.setIfInBounds_toArray, List.set_cons_zero, List.set_cons_succ]
                                  refine wpE_take 2 (v := ?_) rfl (by kernel_rfl) (by kernel_rfl) (by kernel_rfl) (fun _ _ _ h => h) hS0 (by rfl) ?_ ?_
                                  rotate_left
                                  · (intro wq; go_simp; try with_reducible rfl)
                                  simp only [Act.put, List.setIfInBounds_toArray, List.set_cons_zero, List.set_cons_succ]
                                  refine wpE_take 3 (v := ?_) rfl (by kernel_rfl) (by kernel_rfl) (by kernel_rfl) (fun _ _ _ h => h) hS0 (by rfl) ?_ ?_
                                  rotate_left
                                  · (intro wq; go_simp; try with_reducible rfl)
                                  simp only [Act.put, List.setIfInBounds_toArray, List.set_cons_zero, List.set_cons_succ]
                                  refine wpE_take 4 (v := ?_) rfl (by kernel_rfl) (by kernel_rfl) (by kernel_rfl) (fun _ _ _ h => h) hS0 (by rfl) ?_ ?_
                                  rotate_left
                                  · (intro wq; go_simp; try with_reducible rfl)
                                  simp only [Act.put, List.setIfInBounds_toArray, List.set_cons_zero, List.set_cons_succ]
                                  refine wpE_look 5 (v := .slice rs[j].a rs[j].l.length rs[j].c) rfl rfl (by kernel_rfl) (by kernel_rfl) (by kernel_rfl) (by kernel_rfl) (fun _ _ _ h => h) hS0 (by rfl) (fun w hS => by have hc := hS.cell j (by simpa using hlt); rw [show (rs.map Row.v)[j]'(by simpa using hlt) = .slice rs[j].a rs[j].l.length rs[j].c from by simp [Row.v]] at hc; go_simp) ?_
                                  simp only [Act.put, List.setIfInBounds_toArray, List.set_cons_zero, List.set_cons_succ]
                                  refine wpE_exec 1 rfl (by kernel_rfl) (by rfl) ?_
                                  intro K hK
                                  go_simp
                                  refine (rdInts_any _ g s (hr.no (Ext.drew no _))).mono ?_
                                  rintro e w7 ⟨a5, c5, rfl, hrd5, hfr5, hr7, hx7⟩
                                  have hx7' := hxg.comp ((Ext.drew (just g) _).comp hx7)
                                  have hS1 := hnw _ hx7'
                                  refine hK _ _ (fun x => Rd x (some ad) (rs.map Row.v)) (.inr (fun x h => h)) hS1 ?_
                                  clear hK K
                                  refine wpE_exec 6 rfl (by kernel_rfl) (by rfl) ?_
                                  intro K hK
                                  go_simp
                                  refine (lists_any w7 a5 rs[j].a c5 rs[j].c (rInts s).1 rs[j].l hrd5 (hgd _ hx7') (by omega) (by omega)).mono ?_
                                  rintro e w9 ⟨rfl, hx9⟩
                                  rw [decide_eq_false He.out]
                                  have hr9 := hr7.no hx9
                                  have hx9' := hxg.comp ((Ext.drew (just g) _).comp (hx7.comp (hx9.mono (fun _ _ h => h.elim))))
                                  have hS2 := hnw _ hx9'
                                  refine hK _ _ (fun x => Rd x (some ad) (rs.map Row.v)) (.inr (fun x h => h)) hS2 ?_
                                  clear hK K
                                  refine wpE_take 7 (v := ?_) rfl (by kernel_rfl) (by kernel_rfl) (by kernel_rfl) (fun _ _ _ h => h) hS2 (by rfl) ?_ ?_
                                  rotate_left
                                  · (intro wq; go_simp; try with_reducible rfl)
                                  simp only [Act.put, List.setIfInBounds_toArray, List.set_cons_zero, List.set_cons_succ]
                                  refine wpE_skip 8 rfl (by kernel_rfl) (by kernel_rfl) (by kernel_rfl) (fun _ _ _ h => h) hS2 (by rfl) ?_
                                  simp only [Act.put, List.setIfInBounds_toArray, List.set_cons_zero, List.set_cons_succ]
                                  refine wpE_take 9 (v := ?_) rfl (by kernel_rfl) (by kernel_rfl) (by kernel_rfl) (fun _ _ _ h => h) hS2 (by rfl) ?_ ?_
                                  rotate_left
                                  · (intro wq; go_simp; try with_reducible rfl)
                                  simp only [Act.put, List.setIfInBounds_toArray, List.set_cons_zero, List.set_cons_succ]
                                  refine wpE_take 10 (v := ?_) rfl (by kernel_rfl) (by kernel_rfl) (by kernel_rfl) (fun _ _ _ h => h) hS2 (by rfl) ?_ ?_
                                  rotate_left
                                  · (intro wq; go_simp; try with_reducible rfl)
                                  simp only [Act.put, List.setIfInBounds_toArray, List.set_cons_zero, List.set_cons_succ]
                                  refine wpE_done (by kernel_rfl) ?_ _
                                  go_wp2_with fail
                                  go_roundw
                                  case rel => exact ⟨j + 1, _, false, by omega, by go_num, rfl, hr9, Hst2.out, hx9'⟩
                                  case measure => simp [intOf]; omega
                                  -->F
                              · obtain rfl : j = rs.length := by omega
                                rw [List.drop_length, List.flatMap_nil] at hst
                                go_wp2_with fail
                                refine (end_any wr g s hr).mono ?_
                                rintro e w8 ⟨rfl, rfl⟩
                                have hMd8 := hMd.ext (hxg.no2 hgr hx36) (fun _ _ h => h)
                                have hx8 := hxg.no2 hgw hx06
                                rcases hrnd.fin hst with ⟨hk, rfl, he⟩ | ⟨hk, rfl, he⟩ | ⟨hk, hE⟩ | ⟨hk, hM, he⟩
                                all_goals first | (exfalso; omega) | (exfalso; exact HM0.out hE) | (exfalso; exact hM HM0.out) | skip
                                all_goals first | rw [he] | skip
                                all_goals clear hk hst hMd hr hMd6
                                all_goals first | clear he | clear hE | skip
                                all_goals first | clear hM | skip
                                all_goals
                                  go_wp2_with fail
                                  go_roundw
                                  case rel => first | exact ⟨1, by omega, by go_num, hMd8, hx8⟩ | exact ⟨2, by omega, by go_num, hMd8, hx8⟩ | exact ⟨3, by omega, by go_num, hMd8, hx8⟩
                                  case measure => simp [intOf]
                · go_wp2_with fail
                  go_ret
                  exact ⟨rfl, hxr⟩
end Go.Proofs.Ytnplelcnigpemaa
