/- The walk of KvScans. -/
import Derived.Test.YtpljcnjkdjblmaaKvQ
import Derived.Test.YtpljcnjkdjblmaaKvO
import Derived.Test.YtpljcnjkdjblmaaKvZ
namespace Go.Proofs.Ytpljcnjkdjblmaa
open Go.RowKit Go.Esc
set_option linter.unusedVariables false
set_option linter.unusedSimpArgs false

set_option maxRecDepth 100000 in
set_option maxHeartbeats 32000000 in
theorem kvscans_walk (w : World) (la : Option Addr) (l : List ChangeR) (lc : Nat) (n : Int) (hr : Rd w la (rows ChangeR.cells l)) (hlok : ∀ c ∈ l, c.ok) (hlc : l.length ≤ lc) (hcm : lc ≤ maxLen) (hn : I64ok n) :
    Calls Try.prog 8 #[.slice la l.length lc, .int .i64 n] w fun e w' => e = .returned (.bool true) ∧ Ext no w w' := by
  have Hlok := Lib.hid hlok
  have Hcm := Lib.hid hcm
  clear hlok
  unfold maxLen at hcm
  go_enter Try.func8, Try.ntmps8
  go_wp2_with fail
  refine (kvknown_any w).mono ?_
  rintro e w0 ⟨rfl, hx0⟩
  by_cases h40 : 40 < l.length
  · have d0 : decide ((40 : Int) < (l.length : Int)) = true := decT (by omega)
    go_wp2_with fail
    go_ret
    exact ⟨rfl, hx0⟩
  have d0 : decide ((40 : Int) < (l.length : Int)) = false := decF (by omega)
  go_wp2_with fail
  refine (newdisk_any w0 1048576 (by omega) (by omega) (fun _ => False)).mono ?_
  rintro e w1 ⟨g, rfl, hD, hg, hx1⟩
  have hW1 := hx0.comp hx1
  have hgw : w.heap.size ≤ g := by have := hx0.size; omega
  have hw1 := hW1.size
  clear hx0 hx1 hg
  go_wp2_with fail
  refine (kvfresh w1 g 1048576 hD (by omega)).mono ?_
  rintro e w2 ⟨s, j, b, rfl, hSt, ⟨h1, h2, h3⟩, hx2⟩
  have hW2 : Ext no w w2 := hW1.trans hx2 (fun k hk e => by have e : k = g := e; omega)
  have hw2 := hx2.size
  clear hx2 hD hW1
  go_wp2_with fail
  refine (kvgood_any w2 la l lc (hr.ext hW2 (fun _ _ h => h)) Hlok.out hlc Hcm.out).mono ?_
  rintro e w3 ⟨ga, gc, rfl, hog, hx3⟩
  have hGl := goodL_len l
  have hGt := Tells.good l
  have hGz := good_low l 1 (by simp)
  have hGk := kvErr_good l
  have hGe := goodL_err l
  have hGo := goodL_ok l Hlok.out
  generalize goodL l = G at *
  have hW3 := hW2.comp hx3
  have hSt3 := hSt.no hx3
  have hGr := hog.rd
  have hGc := hog.nc
  have hGm := hog.cm
  have hml := kvLays_len G []
  simp only [List.length_nil, Nat.zero_add] at hml
  have hjk : (Well (((DS.new 1048576).jadd (kvEnc G)).1) (frame (kvEnc G)) [] 1048576 2) ∧ ((DS.new 1048576).jadd (kvEnc G)).2 = 0 := by
    have h5 := batch_len G hGe (by omega)
    have h6 := (Well.new 1048576).jadd (kvEnc G) (by simp only [List.length_nil, Nat.zero_add]; omega)
    exact ⟨h6.2, h6.1⟩
  have HGt := Lib.hid hGt
  have HGz := Lib.hid hGz
  have HGk := Lib.hid hGk
  have HGo := Lib.hid hGo
  have Hjk := Lib.hid hjk
  have HSt := Lib.hid hSt3
  clear hog hx3 hSt hW2 hGe hGo hGt hGz hGk hjk hSt3
  go_upto_region 8 with fail
  go_cut [41] (fun s41 wx => s41 = .bool false ∧ ∃ b1, Blk wx s [.pointer (some ⟨j, 0, none⟩), .map (some b1)] ∧ MapIn wx b1 (kvLays [] G) ∧ Ext no w wx)
  case first =>
    by_cases hg0 : 0 < G.length
    · have d1 : decide ((0 : Int) < (G.length : Int)) = true := decT (by omega)
      have d1' : decide (0 < G.length) = true := decT hg0
      have hne : G ≠ [] := fun e => by rw [e] at hg0; simp at hg0
      have Hne := Lib.hid hne
      clear hne
      go_wp2_with fail
      refine (kvapply_any _ g s j b 0 (DS.new 1048576) [] HSt.out ((Well.new 1048576).ok (by simp) (by omega) (by omega)) (by simp [DS.new]) (by omega) (by simp) ga G gc hGr HGo.out hGc hGm (fun _ _ => Hjk.out.2)).mono ?_
      rintro e w4 ⟨rfl, b1, hSt4, hb1, hx4⟩
      have e3 : bM [] G = kvLays [] G := by unfold bM; rw [if_pos HGk.out]
      rw [e3] at hSt4
      rw [HGk.out]
      have hW4 : Ext no w w4 := hW3.trans hx4 (fun k hk e => by rcases e with e | e | e <;> omega)
      have hB4 := hSt4.blk
      have hM4 := hSt4.mp
      clear hSt4 hx4 e3
      go_wp2_with fail
      go_meet
      exact ⟨rfl, b1, hB4, hM4, hW4⟩
    · have d1 : decide ((0 : Int) < (G.length : Int)) = false := decF (by omega)
      have d1' : decide (0 < G.length) = false := decF hg0
      have hGn : G = [] := List.length_eq_zero_iff.1 (by omega)
      have HGn := Lib.hid hGn
      clear hGn
      go_wp2_with fail
      go_meet
      exact ⟨rfl, b, HSt.out.blk, by rw [HGn.out]; exact HSt.out.mp, hW3⟩
  case rest =>
  obtain ⟨rfl, b1, hB, hM, hW4⟩ := hcut
  have hXl := HGt.out.len
  generalize kvLays [] G = M at *
  generalize KvX.nil.puts G = X at *
  clear HSt Hjk HGo HGk hGr hGc hGm hW3
  have hMl : M.length ≤ 20 := by omega
  go_wp2_with fail
  refine (kvwithin_any n 8 wc (by omega) (by omega) hn).mono ?_
  rintro e _ ⟨rfl, rfl⟩
  obtain ⟨q, hq⟩ : ∃ q : Nat, n % 8 = (q : Int) := ⟨(n % 8).toNat, by have := Int.emod_nonneg n (show (8 : Int) ≠ 0 by omega); omega⟩
  have hq8 : q < 8 := by have := Int.emod_lt_of_pos n (show (0 : Int) < 8 by omega); omega
  rw [hq]
  clear hq
  go_wp2_with fail
  go_loopw [10] (fun s10 wr => ∃ c : Nat, s10 = .int .i64 c ∧ c ≤ 3 ∧ Ext no wc wr) (fun s10 _ => 3 - (intOf s10).toNat)
  case atStart => exact ⟨0, rfl, by omega, Ext.refl _ _⟩
  case round =>
    obtain ⟨c, rfl, hc3, hx⟩ := hrel
    have hBr := hB.ext (by simp) hx (fun h => h)
    have hMr := hM.no hx
    by_cases hcl : c < 3
    · have d1 : decide ((c : Int) < 3) = true := decT (by omega)
      have HC := Lib.hid (show (c : Int) = 0 ∨ (c : Int) = 1 ∨ (c : Int) = 2 by omega)
      go_wp2_with fail
      refine (kvscanX_any wr s j b1 M X c [] 400 hBr hMr HGt.out HC.out (by omega)).mono ?_
      rintro e w5 ⟨a1, c1, rfl, hoA, hxA⟩
      have hrl : (X.row c).length ≤ 20 := by
        have : (X.row c).length ≤ X.len := by unfold KvX.row KvX.len; split; omega; split <;> omega
        omega
      have eA : (scanX X c []).take (400 : Int).toNat = X.row c := by rw [scanX_nil]; exact List.take_of_length_le (by omega)
      rw [eA] at hoA ⊢
      have hW5 := hx.comp hxA
      have hB5 := hBr.ext (by simp) hxA (fun h => h)
      have hM5 := hMr.no hxA
      have hAll : ∀ (i : Nat) (r : PairR), (X.row c)[i]? = some r → scanX X c r.key = (X.row c).drop i ∧ (kvGet M (c, r.key)).getD [] = r.val ∧ kvHas M (c, r.key) = true ∧ PlOk ((c : Int), r.key) := fun i r hr => by
        have h1 := kvGet_row HGt.out HC.out (List.mem_of_getElem? hr)
        obtain ⟨_, _, _, _, _, h5⟩ := hM5
        exact ⟨scanX_drop (HGt.out.rise c HC.out) hr, by rw [h1.1]; rfl, h1.2, h5 _ ((HGt.out.mem c r HC.out).1 (List.mem_of_getElem? hr))⟩
      have hri := HGt.out.rise c HC.out
      have hrA := hoA.rd
      generalize X.row c = A at *
      have HAll := Lib.hid hAll
      have HRi := Lib.hid hri
      clear hAll hri eA hoA hxA hBr hMr hx
      go_wp2_with fail
      go_loopw [12] (fun s12 wr => ∃ i : Nat, s12 = .int .i64 i ∧ i ≤ A.length ∧ Ext no w5 wr) (fun s12 _ => A.length - (intOf s12).toNat)
      case atStart => exact ⟨0, rfl, Nat.zero_le _, Ext.refl _ _⟩
      case round =>
        obtain ⟨i, rfl, hil, hx⟩ := hrel
        by_cases hin : i < A.length
        · have d2 : decide (i < A.length) = true := decT hin
          obtain ⟨r, hr⟩ : ∃ r, A[i]? = some r := ⟨_, List.getElem?_eq_getElem hin⟩
          obtain ⟨f1, f2, f3, f4⟩ := HAll.out i r hr
          obtain ⟨ob, off, hsa, _⟩ := rows_shape kPair (by omega) hrA (by omega)
          subst hsa
          have hrr := hrA.ext hx (fun _ _ h => h)
          have y0 : wr.cell? ⟨ob, off + i * 2, none⟩ = some (.string (str r.key)) := rows_cell kPair hrr hr 0 _ rfl
          have y1 : wr.cell? ⟨ob, off + i * 2 + 1, none⟩ = some (.string (str r.val)) := rows_cell kPair hrr hr 1 _ rfl
          have Hr := Lib.hid hr
          have F1 := Lib.hid f1
          have F2 := Lib.hid f2
          have F3 := Lib.hid f3
          clear hr f1 f2 f3
          go_upto_region 18 with fail
          go_cut [72] (fun s72 wx => s72 = .bool false ∧ Ext no w5 wx)
          case first =>
            by_cases hi0 : i = 0
            · have d3 : decide ((0 : Int) < (i : Int)) = false := decF (by omega)
              have d3' : decide (0 < i) = false := decF (by omega)
              clear hi0
              go_quiet (fail)
              go_wp2_with fail
              go_meet
              exact ⟨rfl, hx.comp (Ext.drewN no wr nq)⟩
            · have d3 : decide ((0 : Int) < (i : Int)) = true := decT (by omega)
              have d3' : decide (0 < i) = true := decT (by omega)
              obtain ⟨p, hp⟩ : ∃ p, i = p + 1 := ⟨i - 1, by omega⟩
              obtain ⟨r2, hr2⟩ : ∃ r2, A[p]? = some r2 := ⟨_, List.getElem?_eq_getElem (by omega)⟩
              have z0 : wr.cell? ⟨ob, off + p * 2, none⟩ = some (.string (str r2.key)) := rows_cell kPair hrr hr2 0 _ rfl
              have d4 : Op.bytesLess (str r2.key).toList (str r.key).toList = true := by
                rw [toList_str, toList_str]
                have h1 := (List.getElem?_eq_some_iff.1 hr2)
                have h2 := (List.getElem?_eq_some_iff.1 Hr.out)
                have h3 := List.pairwise_iff_getElem.1 HRi.out p i h1.1 h2.1 (by omega)
                rw [h1.2, h2.2] at h3
                exact h3
              clear hr2 hi0
              subst hp
              go_quiet (fail)
              go_wp2_with fail
              go_meet
              exact ⟨rfl, hx.comp (Ext.drewN no wr nq)⟩
          case rest =>
          obtain ⟨rfl, hx2⟩ := hcut
          clear y0 y1 hrr
          have hrr := hrA.ext hx2 (fun _ _ h => h)
          have y0 : wc.cell? ⟨ob, off + i * 2, none⟩ = some (.string (str r.key)) := rows_cell kPair hrr Hr.out 0 _ rfl
          have y1 : wc.cell? ⟨ob, off + i * 2 + 1, none⟩ = some (.string (str r.val)) := rows_cell kPair hrr Hr.out 1 _ rfl
          have hB6 := hB5.ext (by simp) hx2 (fun h => h)
          have hM6 := hM5.no hx2
          go_wp2_with fail
          refine (kvget_any wc s j b1 M c r.key hB6 hM6 f4).mono ?_
          rintro e _ ⟨rfl, rfl⟩
          rw [F2.out, F3.out]
          go_wp2_with fail
          refine (kvscanX_any wc s j b1 M X c r.key q hB6 hM6 HGt.out HC.out (by omega)).mono ?_
          rintro e w7 ⟨a2, c2, rfl, hoP, hxP⟩
          obtain ⟨P, hP⟩ : ∃ P, P = (A.drop i).take q := ⟨_, rfl⟩
          have eP : (scanX X c r.key).take (q : Int).toNat = P := by rw [F1.out, hP]; rfl
          rw [eP] at hoP ⊢
          have hPl : (q ≤ A.length - i ∧ P.length = q) ∨ (A.length - i < q ∧ P.length + i = A.length) := by
            rw [hP, List.length_take, List.length_drop]
            omega
          have hPk : ∀ (k : Nat) (x : PairR), P[k]? = some x → A[i + k]? = some x := fun k x hk => by
            rw [hP, List.getElem?_take] at hk
            split at hk
            · rwa [List.getElem?_drop] at hk
            · cases hk
          have HPk := Lib.hid hPk
          have hx7 := hx2.comp hxP
          have hrP := hoP.rd
          have y1' : w7.cell? ⟨ob, off + i * 2 + 1, none⟩ = some (.string (str r.val)) := rows_cell kPair (hrA.ext hx7 (fun _ _ h => h)) Hr.out 1 _ rfl
          have q1 : ((str r.val).toList == (str r.val).toList) = true := beqStrT rfl
          clear hPk hP eP hoP hxP hB6 hM6 y0 y1 hrr hx2
          have hil0 : (A.length : Int) - i = ((A.length - i : Nat) : Int) := by omega
          go_upto_region 22 with fail
          go_cut [114] (fun s114 wx => s114 = .bool false ∧ wx = w7)
          case first =>
            have hmin : ((P.length : Int) != min (q : Int) ((A.length - i : Nat) : Int)) = false := by
              rw [show min (q : Int) ((A.length - i : Nat) : Int) = (P.length : Int) by omega]
              simp
            have HMin := Lib.hid hmin
            clear hmin
            go_wp2_with fail
            go_meet
            exact ⟨by rw [HMin.out], rfl⟩
          case rest =>
          obtain ⟨rfl, h0⟩ := hcut
          subst h0
          obtain ⟨w7, h0⟩ : ∃ v, v = wc := ⟨_, rfl⟩
          rw [← h0] at hx7 hrP y1' ⊢
          clear h0
          clear hil0
          go_wp2_with fail
          go_loopw [16] (fun s16 wr => ∃ k : Nat, s16 = .int .i64 k ∧ k ≤ P.length ∧ Ext no w7 wr) (fun s16 _ => P.length - (intOf s16).toNat)
          case atStart => exact ⟨0, rfl, Nat.zero_le _, Ext.refl _ _⟩
          case round =>
            obtain ⟨k, rfl, hkl, hxk⟩ := hrel
            by_cases hkn : k < P.length
            · have d5 : decide (k < P.length) = true := decT hkn
              obtain ⟨x, hpx⟩ : ∃ x, P[k]? = some x := ⟨_, List.getElem?_eq_getElem hkn⟩
              have hax := HPk.out k x hpx
              obtain ⟨o2, off2, hs2, _⟩ := rows_shape kPair (by omega) hrP (by omega)
              subst hs2
              have hrp := hrP.ext hxk (fun _ _ h => h)
              have hra := hrA.ext (hx7.comp hxk) (fun _ _ h => h)
              have x0 : wr.cell? ⟨o2, off2 + k * 2, none⟩ = some (.string (str x.key)) := rows_cell kPair hrp hpx 0 _ rfl
              have x1 : wr.cell? ⟨o2, off2 + k * 2 + 1, none⟩ = some (.string (str x.val)) := rows_cell kPair hrp hpx 1 _ rfl
              have v0 : wr.cell? ⟨ob, off + (i + k) * 2, none⟩ = some (.string (str x.key)) := rows_cell kPair hra hax 0 _ rfl
              have v1 : wr.cell? ⟨ob, off + (i + k) * 2 + 1, none⟩ = some (.string (str x.val)) := rows_cell kPair hra hax 1 _ rfl
              have q2 : ((str x.key).toList == (str x.key).toList) = true := beqStrT rfl
              have q3 : ((str x.val).toList == (str x.val).toList) = true := beqStrT rfl
              have hlt : i + k < A.length := (List.getElem?_eq_some_iff.1 hax).1
              clear hpx hax hrp hra
              go_upto_region 27 with fail
              go_quiet (fail)
              have hxq := hxk.comp (Ext.drewN no wr nq)
              generalize wr.drewN nq = wz at *
              go_wp2_with fail
              go_roundw
              case rel => exact ⟨k + 1, by go_num, by omega, hxq⟩
              case measure => simp [intOf]; omega
            · have d5 : decide (k < P.length) = false := decF hkn
              go_wp2_with fail
              go_roundw
              case rel => exact ⟨i + 1, by go_num, by omega, hx7.comp hxk⟩
              case measure => simp [intOf]; omega
        · have d2 : decide (i < A.length) = false := decF hin
          go_wp2_with fail
          go_roundw
          case rel => exact ⟨c + 1, by go_num, by omega, hW5.comp hx⟩
          case measure => simp [intOf]; omega
    · have d1 : decide ((c : Int) < 3) = false := decF (by omega)
      go_wp2_with fail
      refine (kvscanX_any wr s j b1 M X 0 [] 0 hBr hMr HGt.out (by simp) (by omega)).mono ?_
      rintro e w5 ⟨a1, c1, rfl, _, hxA⟩
      have e0 : ((scanX X 0 []).take (0 : Int).toNat) = [] := by simp
      rw [e0]
      have hB5 := hBr.ext (by simp) hxA (fun h => h)
      have hM5 := hMr.no hxA
      go_wp2_with fail
      refine (kvscanX_any w5 s j b1 M X 1 [126, 126, 126, 126] 9 hB5 hM5 HGt.out (by simp) (by omega)).mono ?_
      rintro e w6 ⟨a1, c1, rfl, _, hxB⟩
      have e1 : ((scanX X 1 [126, 126, 126, 126]).take (9 : Int).toNat) = [] := by rw [HGz.out]; simp
      rw [e1]
      go_wp2_with fail
      go_ret
      exact ⟨rfl, ((hW4.comp hx).comp hxA).comp hxB⟩
end Go.Proofs.Ytpljcnjkdjblmaa
