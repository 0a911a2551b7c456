/- The walk of KvMany. -/
import Derived.Test.YtpljcnjkdjblmaaKvTw
import Derived.Test.YtpljcnjkdjblmaaKvO
namespace Go.Esc
open Go.RowKit
set_option linter.unusedVariables false
def kkey (k : Nat) : List UInt8 := [UInt8.ofNat (97 + k / 26), UInt8.ofNat (97 + k % 26)]
def mch (v : UInt8) (k : Nat) : ChangeR := ⟨((k % 3 : Nat) : Int), kkey k, [v], false⟩
def mbatch (i c : Nat) : List ChangeR := (List.range' i c).map (mch 118)
theorem mbatch_len (i c : Nat) : (mbatch i c).length = c := by unfold mbatch; simp
theorem mbatch_succ (i c : Nat) : mbatch i (c + 1) = mbatch i c ++ [mch 118 (i + c)] := by
  unfold mbatch
  rw [List.range'_concat, List.map_append]
  simp
theorem mch_err (v : UInt8) (k : Nat) (hk : k < 400) (hv : v = 118 ∨ v = 119) : chErr (mch v k) = 0 := by
  have u : ∀ n, n < 256 → (UInt8.ofNat n).toNat = n := fun n h => by simp; omega
  unfold chErr mch
  simp only
  rw [if_neg (by omega), if_pos]
  refine ⟨?_, by simp [kkey], ?_⟩
  · rw [textOk_iff]
    refine ⟨by simp [kkey], fun j b hb => ?_⟩
    unfold kkey at hb
    match j with
    | 0 => simp only [List.getElem?_cons_zero, Option.some.injEq] at hb; rw [← hb, u _ (by omega)]; omega
    | 1 => simp only [List.getElem?_cons_succ, List.getElem?_cons_zero, Option.some.injEq] at hb; rw [← hb, u _ (by omega)]; omega
    | j + 2 => simp at hb
  · rcases hv with rfl | rfl <;> decide
theorem mch_ok (v : UInt8) (k : Nat) : (mch v k).ok := ⟨⟨by show _ ≤ ((k % 3 : Nat) : Int); omega, by show ((k % 3 : Nat) : Int) ≤ _; omega⟩, by show (kkey k).length ≤ maxLen; unfold kkey maxLen; simp, by show ([v] : List UInt8).length ≤ maxLen; unfold maxLen; simp⟩
theorem mbatch_err (i c : Nat) (h : i + c ≤ 400) : ∀ x ∈ mbatch i c, chErr x = 0 := by
  intro x hx
  obtain ⟨k, hk, rfl⟩ := List.mem_map.1 hx
  have := List.mem_range'_1.1 hk
  exact mch_err 118 k (by omega) (.inl rfl)
theorem mbatch_ok (i c : Nat) : ∀ x ∈ mbatch i c, x.ok := by
  intro x hx
  obtain ⟨k, hk, rfl⟩ := List.mem_map.1 hx
  exact mch_ok 118 k
theorem has_lays (l : List ChangeR) : ∀ m : KvM, (∀ c ∈ l, c.del = false) → ∀ p : PlaceR, ((∃ v, (p, v) ∈ m) ∨ ∃ c ∈ l, c.at = p) → ∃ v, (p, v) ∈ kvLays m l := by
  induction l with
  | nil =>
    intro m _ p h
    rcases h with h | ⟨c, hc, _⟩
    · exact h
    · cases hc
  | cons c l ih =>
    intro m hd p h
    refine ih (kvLay m c) (fun d hd' => hd d (List.mem_cons_of_mem _ hd')) p ?_
    have hcd := hd c (by simp)
    by_cases hp : c.at = p
    · exact .inl ⟨c.val, (kvLay_mem c _).2 (.inl ⟨hcd, by rw [hp]⟩)⟩
    · rcases h with ⟨v, h⟩ | ⟨d, hd', he⟩
      · exact .inl ⟨v, (kvLay_mem c _).2 (.inr ⟨h, fun e => hp e.symm⟩)⟩
      · rcases List.mem_cons.1 hd' with e | e
        · rw [e] at he; exact absurd he hp
        · exact .inr ⟨d, e, he⟩
/-- The first keys are there. -/
def MInv (X : KvX) (i : Nat) : Prop := (∀ t, t < i → t < 285 → ∃ v, (⟨kkey t, v⟩ : PairR) ∈ X.row ((t % 3 : Nat) : Int)) ∧ (i ≤ 285 → X.len ≤ i)
theorem m3 (t : Nat) : ((t % 3 : Nat) : Int) = 0 ∨ ((t % 3 : Nat) : Int) = 1 ∨ ((t % 3 : Nat) : Int) = 2 := by omega
theorem MInv.step {m : KvM} {X : KvX} {i N : Nat} (h : MInv X i) (ht : Tells m X) (hi : i % 15 = 0) (hN : 285 ≤ N) (hN2 : N ≤ 309) (hin : i < N) (c : Nat) (hc : c ≤ 15) (hcN : i + c ≤ N) (hcm : c = 15 ∨ N ≤ i + c) : MInv (xAp X (mbatch i c)) (i + 15) := by
  have hlo := puts_len (mbatch i c) X
  rw [mbatch_len] at hlo
  have htp := ht.puts (mbatch i c) (fun x hx => chErr_coll (mbatch_err i c (by omega) x hx))
  have hold : ∀ t, t < 285 → (t < i ∨ (i ≤ t ∧ t < i + c)) → ∃ v, (⟨kkey t, v⟩ : PairR) ∈ (X.puts (mbatch i c)).row ((t % 3 : Nat) : Int) := by
    intro t h2 h1
    have : ∃ v, ((((t % 3 : Nat) : Int), kkey t), v) ∈ kvLays m (mbatch i c) := by
      refine has_lays _ m (fun x hx => by obtain ⟨k, _, rfl⟩ := List.mem_map.1 hx; rfl) _ ?_
      rcases h1 with h1 | h1
      · obtain ⟨v, hv⟩ := h.1 t h1 h2
        exact .inl ⟨v, (ht.mem _ _ (m3 t)).1 hv⟩
      · exact .inr ⟨mch 118 t, List.mem_map.2 ⟨t, List.mem_range'_1.2 ⟨h1.1, h1.2⟩, rfl⟩, rfl⟩
    obtain ⟨v, hv⟩ := this
    exact ⟨v, (htp.mem _ ⟨kkey t, v⟩ (m3 t)).2 hv⟩
  by_cases h285 : i < 285
  · have hc15 : c = 15 := by omega
    have hXi := h.2 (by omega)
    have he : xErr X (mbatch i c) = 0 := by
      unfold xErr
      rw [mbatch_len, if_neg (by omega), if_neg (by rw [(firstErr_zero _).2 (mbatch_err i c (by omega))]; simp), if_neg (by omega)]
    unfold xAp
    rw [if_pos he]
    exact ⟨fun t h1 h2 => hold t h2 (by omega), fun _ => by omega⟩
  · refine ⟨fun t h1 h2 => ?_, fun hh => by omega⟩
    unfold xAp
    split
    · exact hold t h2 (by omega)
    · exact h.1 t (by omega) h2
theorem lays_same {m : KvM} {X : KvX} {i k : Nat} (h : MInv X i) (ht : Tells m X) (hi : 285 ≤ i) (hk : k < 200) (hl : X.len ≤ 300) : xErr X [mch 119 k] = 0 ∧ (X.puts [mch 119 k]).len = X.len := by
  obtain ⟨v, hv⟩ := h.1 k (by omega) (by omega)
  have hh : kvHas m (mch 119 k).at = true := (kvHas_iff m _).2 ⟨v, (ht.mem _ _ (m3 k)).1 hv⟩
  have hml : (kvLays m [mch 119 k]).length = m.length := by
    show (kvLay m (mch 119 k)).length = _
    unfold kvLay
    rw [if_neg (by simp [mch])]
    unfold kvPut
    rw [if_pos hh, List.length_map]
  have htp := ht.puts [mch 119 k] (fun x hx => by rw [List.mem_singleton] at hx; rw [hx]; exact m3 k)
  have e : (X.puts [mch 119 k]).len = X.len := by rw [← htp.len, hml, ht.len]
  refine ⟨?_, e⟩
  unfold xErr
  rw [if_neg (by simp), if_neg (by rw [(firstErr_zero _).2 (fun x hx => by rw [List.mem_singleton] at hx; rw [hx]; exact mch_err 119 k (by omega) (.inr rfl))]; simp), if_neg (by omega)]
end Go.Esc
namespace Go.Proofs.Ytpljcnjkdjblmaa
open Go.RowKit Go.Esc
set_option linter.unusedVariables false
set_option linter.unusedSimpArgs false

set_option maxRecDepth 100000 in
set_option maxHeartbeats 32000000 in
theorem kvmany_walk (w : World) (n ag : Int) (hn : I64ok n) (hag : I64ok ag) :
    Calls Try.prog 3 #[.int .i64 n, .int .i64 ag] w fun e w' => e = .returned (.bool true) ∧ Ext no w w' := by
  go_enter Try.func3, Try.ntmps3
  go_wp2_with fail
  refine (kvknown_any w).mono ?_
  rintro e w0 ⟨rfl, hx0⟩
  go_wp2_with fail
  refine (kvwithin_any n 25 w0 (by omega) (by omega) hn).mono ?_
  rintro e _ ⟨rfl, rfl⟩
  have hq0 := Int.emod_nonneg n (show (25 : Int) ≠ 0 by omega)
  have hq1 := Int.emod_lt_of_pos n (show (0 : Int) < 25 by omega)
  generalize n % 25 = r at *
  obtain ⟨N, hN⟩ : ∃ N : Nat, (285 + r) = (N : Int) := ⟨(285 + r).toNat, by omega⟩
  have hN1 : 285 ≤ N := by omega
  have hN2 : N ≤ 309 := by omega
  go_wp2_with fail
  refine (newdisk_any w0 1048576 (by omega) (by omega) (fun _ => False)).mono ?_
  rintro e w1 ⟨g, rfl, hD, hg, hx1⟩
  have hW1 := hx0.comp hx1
  have hgw : w.heap.size ≤ g := by have := hx0.size; omega
  have hw1 := hW1.size
  clear hx0 hx1 hg
  go_wp2_with fail
  refine (kvfresh w1 g 1048576 hD (by omega)).mono ?_
  rintro e w2 ⟨s, j, b, rfl, hSt, ⟨h1, h2, h3⟩, hx2⟩
  have hW2 : Ext no w w2 := hW1.trans hx2 (fun k hk e => by have e : k = g := e; omega)
  have hw2 := hx2.size
  clear hx2 hD hW1
  go_upto_region 7 with fail
  have hTw := Two.start hSt 35
  have hxb := Ext.alloc no w2 (.cells #[.slice none 0 0, .slice none 0 0, .slice none 0 0] 35)
  generalize w2.alloc (.cells #[.slice none 0 0, .slice none 0 0, .slice none 0 0] 35) = w3 at *
  obtain ⟨x, hx⟩ : ∃ x, x = w2.heap.size := ⟨_, rfl⟩
  rw [← hx] at hTw ⊢
  have hwx : w.heap.size ≤ x := by have := hW2.size; omega
  have hW3 := hW2.comp hxb
  have hgg : ∀ k, three g s j k → w.heap.size ≤ k := fun k hk => by rcases hk with e | e | e <;> omega
  have HGG := Lib.hid hgg
  have HTw := Lib.hid hTw
  clear hx hxb hSt hTw hW2 hgg
  go_wp2_with fail
  go_loopw [10] (fun s10 wr => ∃ (i b n' : Nat) (ds : DS) (m : KvM) (X : KvX) (q : Trio) (D : Nat), s10 = .int .i64 i ∧ i % 15 = 0 ∧ i ≤ 330 ∧ D ≤ i ∧ n' ≤ 16 ∧ MInv X i ∧ Two wr g s j b x ds n' m X q 1048576 0 D ∧ Ext no w wr) (fun s10 _ => 400 - (intOf s10).toNat)
  case atStart => exact ⟨0, b, 0, _, _, _, _, 0, rfl, rfl, by omega, by omega, by omega, ⟨fun t h => by omega, fun _ => by simp [KvX.nil, KvX.len]⟩, HTw.out, hW3⟩
  case round =>
    clear HTw hW3
    obtain ⟨i, b, n', ds, m, X, q, D, rfl, hi15, hi330, hDi, hn16, hInv, hTw, hW⟩ := hrel
    have HInv := Lib.hid hInv
    have HTw := Lib.hid hTw
    have Hi15 := Lib.hid hi15
    clear hInv hTw hi15
    by_cases hin : i < N
    · have d1 : decide (i < N) = true := decT hin
      obtain ⟨B, hB⟩ : ∃ B, B = wr.heap.size := ⟨_, rfl⟩
      have hB1 : wr.heap.size ≤ B := by omega
      have hB2 : B ≤ wr.heap.size := by omega
      clear hB
      go_wp2_with fail
      go_loopw [11, 12] (fun s11 s12 wz => ∃ (c k : Nat) (a : Option Addr) (p : Nat), s11 = .slice a (mbatch i c).length p ∧ s12 = .int .i64 k ∧ k ≤ i + c ∧ i + c ≤ k ∧ c ≤ 15 ∧ k ≤ N ∧ Own wz B a 4 (mbatch i c).length p (rows ChangeR.cells (mbatch i c)) ∧ Ext no wr wz) (fun _ s12 _ => 400 - (intOf s12).toNat)
      case atStart => exact ⟨0, i, none, 0, rfl, rfl, by omega, by omega, by omega, by omega, Own.nil _ _ _, Ext.refl _ _⟩
      case round =>
        obtain ⟨c, k, a, p, rfl, rfl, hk1, hk2, hc15, hkN, hown, hx⟩ := hrel
        have hma : (mbatch i c).length ≤ c := Nat.le_of_eq (mbatch_len i c)
        have hbz := hx.size
        obtain ⟨tt, htt⟩ : ∃ tt : Bool, tt = decide (k < N ∧ k < i + 15) := ⟨_, rfl⟩
        have Htt := Lib.hid htt
        clear htt
        go_upto_region 12 with fail
        go_cut [45] (fun s45 wx => s45 = .bool tt ∧ wx = wr)
        case first =>
          by_cases ht1 : k < N
          · have d2 : decide (k < N) = true := decT ht1
            by_cases ht2 : k < i + 15
            · have d3 : decide ((k : Int) < (i : Int) + 15) = true := decT (by omega)
              have HT := Lib.hid (show tt = true by rw [Htt.out]; exact decT ⟨ht1, ht2⟩)
              go_wp2_with fail
              go_meet
              exact ⟨by rw [HT.out], rfl⟩
            · have d3 : decide ((k : Int) < (i : Int) + 15) = false := decF (by omega)
              have HT := Lib.hid (show tt = false by rw [Htt.out]; exact decF (fun h => ht2 h.2))
              go_wp2_with fail
              go_meet
              exact ⟨by rw [HT.out], rfl⟩
          · have d2 : decide (k < N) = false := decF ht1
            have HT := Lib.hid (show tt = false by rw [Htt.out]; exact decF (fun h => ht1 h.1))
            go_wp2_with fail
            go_meet
            exact ⟨by rw [HT.out], rfl⟩
        case rest =>
        obtain ⟨rfl, h0⟩ := hcut
        obtain ⟨wr, h0'⟩ : ∃ v, v = wc := ⟨_, rfl⟩
        rw [← h0'] at h0 ⊢
        subst h0
        clear h0'
        cases tt with
        | true =>
          obtain ⟨ht1, ht2⟩ := of_decide_eq_true Htt.out.symm
          have hu1 : ((UInt8.ofNat (97 + k / 26)).toNat : Int) = 97 + (k : Int) / 26 := by simp; omega
          have hu2 : ((UInt8.ofNat (97 + k % 26)).toNat : Int) = 97 + (k : Int) % 26 := by simp; omega
          have cv : ∀ (w : World), (convert 37 9 (.slice (some ⟨w.heap.size, 0, none⟩) 2 2)).run Try.prog (w.alloc (.cells #[.int .u8 (97 + (k : Int) / 26), .int .u8 (97 + (k : Int) % 26)] 5 (0, 0))) = .ok (.string (str (kkey k))) (w.alloc (.cells #[.int .u8 (97 + (k : Int) / 26), .int .u8 (97 + (k : Int) % 26)] 5 (0, 0))) := fun w => by
            rw [← hu1, ← hu2]
            exact convStr _ _ 2 2 (kkey k) rfl (Rd.lit w _ _ _)
          clear hu1 hu2
          have hX1 : Rd ((wr.alloc (.cells #[.int .u8 (97 + (k : Int) / 26), .int .u8 (97 + (k : Int) % 26)] 5)).alloc (.cells #[.int .i64 ((k : Int) % 3), .string (str (kkey k)), .string { data := #[118] }, .bool false] 39)) (some ⟨wr.heap.size + 1, 0, none⟩) (ChangeR.cells (mch 118 k)) := by
            have q := Rd.lit (wr.alloc (.cells #[.int .u8 (97 + (k : Int) / 26), .int .u8 (97 + (k : Int) % 26)] 5)) #[.int .i64 ((k : Int) % 3), .string (str (kkey k)), .string { data := #[118] }, .bool false] 39 (0, 0)
            rw [World.size_alloc] at q
            exact q
          have hxa := (Ext.alloc no wr (.cells #[.int .u8 (97 + (k : Int) / 26), .int .u8 (97 + (k : Int) % 26)] 5)).comp (Ext.alloc no (wr.alloc (.cells #[.int .u8 (97 + (k : Int) / 26), .int .u8 (97 + (k : Int) % 26)] 5)) (.cells #[.int .i64 ((k : Int) % 3), .string (str (kkey k)), .string { data := #[118] }, .bool false] 39))
          go_wp2_with (at_builtin; refine wpList_append TChange rfl rfl rfl (hown.ext hxa (fun _ _ h => h)) rfl hX1 rfl (one1Change _) ?c1 ?c2 ?c3 ?_)
          case c1 => unfold maxLen; omega
          case c2 => omega
          case c3 => first | omega | (simp; omega)
          intro a5 p5 w5 hp5
          have ho : Own w5 B a5 4 (mbatch i (c + 1)).length p5 (rows ChangeR.cells (mbatch i (c + 1))) := by
            have q := hp5.own
            have e : k = i + c := by omega
            rw [mbatch_succ, rows_append, rows_one, List.length_append, ← e]
            exact q
          have hx5 : Ext no _ w5 := (hx.comp hxa).trans hp5.ext (fun k hk => by rintro ⟨ad, h, hh⟩; have := (hown.base ad h).1; omega)
          have HX5 := Lib.hid hx5
          clear hp5 hX1 hown hxa hx5 cv hx
          go_wp2_with fail
          go_roundw
          case rel => exact ⟨c + 1, k + 1, a5, p5, by rw [mbatch_succ, List.length_append]; rfl, by go_num, by omega, by omega, by omega, by omega, ho, HX5.out⟩
          case measure => simp [intOf]; omega
        | false =>
          have hCM : c = 15 ∨ N ≤ i + c := by
            have h1 := of_decide_eq_false Htt.out.symm
            omega
          have hTw := HTw.out.no hx
          have h3l := HTw.out.three_lt
          have hSt := HInv.out.step hTw.tells Hi15.out (by omega) (by omega) (by omega) c hc15 (by omega) hCM
          have hor := hown.rd
          have hnc := hown.nc
          have hcm := hown.cm
          have hbase := hown.base
          have hxl := hTw.kx.blk.lt (by simp)
          have hnle := hTw.kp.nle
          have hdle := hTw.kp.dle
          have hfew := hTw.few
          have hml := hTw.tells.len
          have hmok := mbatch_ok i c
          generalize mbatch i c = L at *
          have HSt := Lib.hid hSt
          have HML := Lib.hid hml
          have hml3 : m.length ≤ 300 := by omega
          clear hSt hown hml hCM
          go_wp2_with fail
          refine (kvapply_all wr g s j b n' ds m X (fun i => i = x) hTw.st hTw.tells hTw.good (hTw.kp.ok (by omega) (by omega) (by omega)) (by omega) (by omega) hml3 a L p hor hmok hnc hcm).mono ?_
          rintro e w5 ⟨rfl, b', hS5, hb', hx5⟩
          rcases ap_ends hTw.kp hTw.tells hTw.good hTw.few L with ⟨e1, e2, e3, e4, e5⟩ | ⟨_, _, hr, _⟩ | ⟨_, _, hL, _⟩
          case inr.inl => omega
          case inr.inr => omega
          rw [e1]
          have hk5 := hTw.kx1 hx5
          clear e1
          generalize apR ds n' m L (kvEnc (wholeX X)) = R at *
          generalize apM ds n' m L (kvEnc (wholeX X)) = m2 at *
          have hor5 := hor.ext hx5 (fun ad ha h => by have := (hbase ad ha).1; have := h3l _ h; omega)
          go_wp2_with fail
          refine (kvof_any w5 a L p hor5 (by omega)).mono ?_
          rintro e w6 ⟨a6, p6, rfl, ho6, hx6⟩
          have hxz5 := hx5.size
          go_wp2_with fail
          refine (rapply_any w6 x X q (hk5.no hx6) (by omega) a6 L p6 ho6.rd hmok (fun ad ha => by have := (ho6.base ad ha).1; omega) (by omega)).mono ?_
          rintro e w7 ⟨rfl, q', hk7, hF7, hx7⟩
          have hxz6 := hx6.size
          have hT7 := hTw.step hb' (hS5.no hx6) (hx5.comp (hx6.mono (fun _ _ h => h.elim))) hk7 hF7 hx7 e3 e4 e5 e2
          have hW7 : Ext no w w7 := ((((hW.comp hx).trans hx5 (fun k hk h => by have := HGG.out _ h; omega)).comp hx6)).trans hx7 (fun k hk h => by have h : k = x := h; omega)
          have hl7 := e3.len
          have HT7 := Lib.hid hT7
          generalize xAp X L = X2 at *
          generalize xErr X L = K at *
          have HL7 := Lib.hid hl7
          have hm2 : m2.length ≤ 300 := by omega
          clear hl7 e2 e3 e4 e5 hF7 hx7 hx6 hx5 hor5 hor ho6 hk5 hS5 hTw
          go_wp2_with fail
          refine (kvlen_any w7 s j b' m2 HT7.out.st.st.blk HT7.out.st.st.mp (by omega)).mono ?_
          rintro e _ ⟨rfl, rfl⟩
          rw [HL7.out]
          go_wp2_with fail
          refine (rlen_any w7 x X2 q' hk7 (most_of (by have := HT7.out.few; omega))).mono ?_
          rintro e w8 ⟨rfl, hx8⟩
          go_wp2_with fail
          go_roundw
          case rel => exact ⟨i + 15, b', R.2.1, R.1, m2, X2, q', D + 3, by go_num, by have := Hi15.out; omega, by omega, by omega, by have := HT7.out.kp.nle; omega, HSt.out, HT7.out.no hx8, hW7.comp hx8⟩
          case measure => simp [intOf]; omega
    · have d1 : decide (i < N) = false := decF hin
      go_wp2_with fail
      refine (kvwithin_any ag 200 wr (by omega) (by omega) hag).mono ?_
      rintro e _ ⟨rfl, rfl⟩
      obtain ⟨k, hk⟩ : ∃ k : Nat, ag % 200 = (k : Int) := ⟨(ag % 200).toNat, by have := Int.emod_nonneg ag (show (200 : Int) ≠ 0 by omega); omega⟩
      have hk2 : k < 200 := by have := Int.emod_lt_of_pos ag (show (0 : Int) < 200 by omega); omega
      rw [hk]
      clear hk
      have hu1 : ((UInt8.ofNat (97 + k / 26)).toNat : Int) = 97 + (k : Int) / 26 := by simp; omega
      have hu2 : ((UInt8.ofNat (97 + k % 26)).toNat : Int) = 97 + (k : Int) % 26 := by simp; omega
      have cv : ∀ (w : World), (convert 37 9 (.slice (some ⟨w.heap.size, 0, none⟩) 2 2)).run Try.prog (w.alloc (.cells #[.int .u8 (97 + (k : Int) / 26), .int .u8 (97 + (k : Int) % 26)] 5 (0, 0))) = .ok (.string (str (kkey k))) (w.alloc (.cells #[.int .u8 (97 + (k : Int) / 26), .int .u8 (97 + (k : Int) % 26)] 5 (0, 0))) := fun w => by
        rw [← hu1, ← hu2]
        exact convStr _ _ 2 2 (kkey k) rfl (Rd.lit w _ _ _)
      clear hu1 hu2
      have hX1 : Rd ((wr.alloc (.cells #[.int .u8 (97 + (k : Int) / 26), .int .u8 (97 + (k : Int) % 26)] 5)).alloc (.cells #[.int .i64 ((k : Int) % 3), .string (str (kkey k)), .string { data := #[119] }, .bool false] 39)) (some ⟨wr.heap.size + 1, 0, none⟩) (ChangeR.cells (mch 119 k)) := by
        have q := Rd.lit (wr.alloc (.cells #[.int .u8 (97 + (k : Int) / 26), .int .u8 (97 + (k : Int) % 26)] 5)) #[.int .i64 ((k : Int) % 3), .string (str (kkey k)), .string { data := #[119] }, .bool false] 39 (0, 0)
        rw [World.size_alloc] at q
        exact q
      have hxa := (Ext.alloc no wr (.cells #[.int .u8 (97 + (k : Int) / 26), .int .u8 (97 + (k : Int) % 26)] 5)).comp (Ext.alloc no (wr.alloc (.cells #[.int .u8 (97 + (k : Int) / 26), .int .u8 (97 + (k : Int) % 26)] 5)) (.cells #[.int .i64 ((k : Int) % 3), .string (str (kkey k)), .string { data := #[119] }, .bool false] 39))
      go_wp2_with fail
      generalize (wr.alloc (.cells #[.int .u8 (97 + (k : Int) / 26), .int .u8 (97 + (k : Int) % 26)] 5)).alloc (.cells #[.int .i64 ((k : Int) % 3), .string (str (kkey k)), .string { data := #[119] }, .bool false] 39) = w4 at *
      have hTw := HTw.out.no hxa
      have h3l := HTw.out.three_lt
      obtain ⟨he0, hel⟩ := lays_same HInv.out hTw.tells (by omega) hk2 hTw.few
      have hnle := hTw.kp.nle
      have hdle := hTw.kp.dle
      have hfew := hTw.few
      have hml3 : m.length ≤ 300 := by have := hTw.tells.len; omega
      have hor : Rd w4 (some ⟨wr.heap.size + 1, 0, none⟩) (rows ChangeR.cells [mch 119 k]) := by rw [rows_one]; exact hX1
      refine (kvapply_all w4 g s j b n' ds m X (fun i => i = x) hTw.st hTw.tells hTw.good (hTw.kp.ok (by omega) (by omega) (by omega)) (by omega) (by omega) hml3 (some ⟨wr.heap.size + 1, 0, none⟩) [mch 119 k] 1 hor (fun c hc => by rw [List.mem_singleton] at hc; rw [hc]; exact mch_ok 119 k) (by simp) (by unfold maxLen; omega)).mono ?_
      rintro e w5 ⟨rfl, b', hS5, hb', hx5⟩
      have hcl : (wr.heap.size : Nat) < w4.heap.size := by have := hX1.shape (by simp [ChangeR.cells]); obtain ⟨_, _, h1, h2⟩ := this; cases h1; omega
      have hk5 := hTw.kx1 hx5
      have hxp : (xAp X [mch 119 k]).len = X.len := by unfold xAp; rw [if_pos he0]; exact hel
      rcases ap_ends hTw.kp hTw.tells hTw.good hTw.few [mch 119 k] with ⟨e1, e2, e3, e4, e5⟩ | ⟨_, _, hr, _⟩ | ⟨_, _, hL, _⟩
      case inr.inl => omega
      case inr.inr => omega
      rw [e1, he0]
      have hl3 := e3.len
      rw [hxp] at hl3
      have HL3 := Lib.hid hl3
      have hbk := hS5.st.blk
      have hmp := hS5.st.mp
      have hX3 : X.len ≤ 300 := hfew
      have hW5 : Ext no w w5 := (hW.comp hxa).trans hx5 (fun k hk h => by have := HGG.out _ h; omega)
      generalize apM ds n' m [mch 119 k] (kvEnc (wholeX X)) = m2 at *
      have hm2 : m2.length ≤ 300 := by omega
      clear e1 he0 hel e2 e3 e4 e5 hl3 hxp hS5 hTw cv hX1 hxa hor
      have d8 : decide ((X.len : Int) ≤ 300) = true := decT (by omega)
      have d9 : ((X.len : Int) == (X.len : Int)) = true := by simp
      go_wp2_with fail
      refine (kvlen_any w5 s j b' m2 hbk hmp (by omega)).mono ?_
      rintro e _ ⟨rfl, rfl⟩
      rw [HL3.out]
      go_wp2_with fail
      refine (kvlen_any w5 s j b' m2 hbk hmp (by omega)).mono ?_
      rintro e _ ⟨rfl, rfl⟩
      rw [HL3.out]
      go_wp2_with fail
      refine (rlen_any w5 x X q hk5 (most_of (by omega))).mono ?_
      rintro e w8 ⟨rfl, hx8⟩
      go_wp2_with fail
      go_ret
      exact ⟨rfl, hW5.comp hx8⟩
end Go.Proofs.Ytpljcnjkdjblmaa
