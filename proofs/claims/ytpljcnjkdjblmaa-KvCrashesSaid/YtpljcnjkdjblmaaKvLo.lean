/- kv's Open of any disk in order. -/
import Derived.Test.YtpljcnjkdjblmaaKvL
namespace Go.Proofs.Ytpljcnjkdjblmaa
open Go.RowKit Go.Esc
set_option linter.unusedVariables false
set_option linter.unusedSimpArgs false

set_option maxRecDepth 100000 in
set_option maxHeartbeats 8000000 in
theorem kvopen_any (w : World) (g : Nat) (ds ds' : DS) (M : Nat → Prop) (h : Dk w g ds M) (hM : ∀ k, M k → k < w.heap.size) (hok : ds.ok) (X : KvX) (room D : Nat) (sn : List UInt8) (B : List ChangeR) (Ls : List (List ChangeR))
    (ho : ds.opens = (ds', 0, sn, Ls.map kvEnc)) (hk : KpAt ds' X room 0 D B Ls) (hsn : (sn = [] ∧ B = []) ∨ sn = kvEnc B) :
    Calls Try.prog 13 #[.pointer (some ⟨g, 0, none⟩)] w fun e w' => ∃ s j b, e = .returned (.tuple #[.pointer (some ⟨s, 0, none⟩), .int .i64 0]) ∧ StM w' g s j b ds' Ls.length (Ls.foldl kvLays (kvLays [] B)) M ∧ (w.heap.size ≤ s ∧ w.heap.size ≤ j ∧ w.heap.size ≤ b) ∧ Ext (just g) w w' := by
  have hgl := h.lt
  have hmm := @run_makeMap Try.prog
  have hbok := hk.bok
  have hble := hk.blen
  have hlok := hk.lok
  have hfew := hk.few
  have HBok := Lib.hid hbok
  have HLok := Lib.hid hlok
  have HSn := Lib.hid hsn
  clear hbok hlok hk hsn
  go_enter Try.func13, Try.ntmps13
  go_wp2_with fail
  refine (open_any w g ds M h hM hok).mono ?_
  rw [ho]
  rintro e w1 ⟨J, sa, sc, la, lc, rfl, ⟨hsr, hsb⟩, hls, hx1, hend⟩
  rcases hend with ⟨hk, _⟩ | ⟨_, j, rfl, hj1, hj2, hJ, hD⟩
  · exact absurd rfl hk
  simp only [List.length_map] at hJ ⊢
  obtain ⟨ps, hp1, hp2, hp3, hp4, hp5⟩ := hls
  have HP1 := Lib.hid hp1
  clear hp1 ho
  go_upto_region 5 with fail
  have hm := MapIn.new w1
  have hxm := Ext.alloc no w1 (.map #[] 0)
  have hS := Blk.at (w1.alloc (.map #[] 0)) #[.pointer (some ⟨j, 0, none⟩), .map (some w1.heap.size)] 80 (w1.heap.size + 1) (by simp)
  have hxs := Ext.alloc no (w1.alloc (.map #[] 0)) (.cells #[.pointer (some ⟨j, 0, none⟩), .map (some w1.heap.size)] 80)
  have hz2 : ((w1.alloc (.map #[] 0)).alloc (.cells #[.pointer (some ⟨j, 0, none⟩), .map (some w1.heap.size)] 80)).heap.size = w1.heap.size + 2 := by simp
  generalize (w1.alloc (.map #[] 0)).alloc (.cells #[.pointer (some ⟨j, 0, none⟩), .map (some w1.heap.size)] 80) = w2 at *
  have hx2 := hxm.comp hxs
  have hgl1 := hD.lt
  have hm2 := hm.no hxs
  obtain ⟨b, hb⟩ : ∃ b, b = w1.heap.size := ⟨_, rfl⟩
  rw [← hb] at hm2 hS ⊢
  obtain ⟨s, hs⟩ : ∃ s, s = b + 1 := ⟨_, rfl⟩
  rw [← hs] at hS ⊢
  have hbs : w1.heap.size ≤ b ∧ b < s ∧ s < w2.heap.size := by omega
  have hD2 := (hD.fewer (N' := fun i => (i = s ∨ i = j ∨ i = b) ∨ M i) (fun k hk hh => by rcases hh with (q | q | q) | q; omega; exact .inr q; omega; exact .inl q)).no hx2
  have hJ2 : Blk w2 j (jcells g Ls.length) := by have := hJ.ext (by simp [jcells]) hx2 (fun h => h); exact this
  have hsr2 := hsr.ext hx2 (fun _ _ h => h)
  have hw1 := hx1.size
  have hW2 : Ext (just g) w w2 := hx1.comp (hx2.mono (fun _ _ h => h.elim))
  have hsL : ∀ ad, sa = some ad → sn ≠ [] → ad.block < w1.heap.size := fun ad ha hne => by
    obtain ⟨b0, o0, h1, h2⟩ := hsr.shape (by rw [bs_length]; cases sn with | nil => exact absurd rfl hne | cons _ _ => simp)
    rw [ha] at h1
    cases h1
    exact h2
  clear hb hs hz2 hxm hxs hm hD hJ hx1
  obtain ⟨tt, htt⟩ : ∃ tt : Bool, decide (0 < sn.length) = tt := ⟨_, rfl⟩
  go_upto_if 27 with fail
  have Htt := Lib.hid htt
  clear htt
  go_cut [30] (fun _ wx => MapIn wx b (kvLays [] B) ∧ Ext (just b) w2 wx)
  case first =>
    rcases HSn.out with ⟨e1, e2⟩ | e1
    · have HE2 := Lib.hid e2
      have e3 : tt = false := by rw [← Htt.out, e1]; rfl
      subst e3
      clear e1 e2 hsr hsr2 hsL
      go_wp2_with fail
      go_meet
      exact ⟨by rw [HE2.out]; exact hm2, Ext.refl _ _⟩
    · have hlen : 0 < sn.length := by
        rw [e1]
        unfold kvEnc
        have := (encI_length B.length ⟨by omega, by omega⟩).2
        rw [List.length_append]
        omega
      have e3 : tt = true := by rw [← Htt.out]; exact decT hlen
      subst e3
      have HE1 := Lib.hid e1
      clear e1
      go_wp2_with fail
      have q := kvlay_any w2 s j b [] hS hm2 (by omega) B (by omega) HBok.out sa sc (by rw [← HE1.out]; exact hsr2)
      rw [← HE1.out] at q
      refine q.mono ?_
      clear q
      rintro e w3 ⟨rfl, hm3, hx3⟩
      go_wp2_with fail
      go_meet
      exact ⟨hm3, hx3⟩
  case rest =>
  obtain ⟨hm3, hx3⟩ := hcut
  clear hsr hsr2 hsL hm2
  go_wp2_with fail
  go_loopw [33] (fun s33 wr => ∃ i : Nat, s33 = .int .i64 i ∧ i ≤ Ls.length ∧ MapIn wr b ((Ls.take i).foldl kvLays (kvLays [] B)) ∧ Ext (just b) w2 wr) (fun s33 _ => Ls.length - (intOf s33).toNat)
  case atStart => exact ⟨0, rfl, Nat.zero_le _, by rw [List.take_zero]; exact hm3, hx3⟩
  case round =>
    clear hm3 hx3
    obtain ⟨i, rfl, hil, hm, hx⟩ := hrel
    have hSr := hS.ext (by simp) hx (fun e => by have e : s = b := e; omega)
    by_cases hin : i < Ls.length
    · have d1 : decide (i < Ls.length) = true := decT hin
      obtain ⟨l, hl⟩ : ∃ l, Ls[i]? = some l := ⟨_, List.getElem?_eq_getElem hin⟩
      obtain ⟨p, hp⟩ : ∃ p, ps[i]? = some p := ⟨_, List.getElem?_eq_getElem (by have := congrArg List.length HP1.out; simp only [List.length_map] at this; omega)⟩
      have hpl : p.l = kvEnc l := by
        have h1 : (ps.map Part.l)[i]? = some p.l := by rw [List.getElem?_map, hp]; rfl
        rw [HP1.out, List.getElem?_map, hl] at h1
        exact (Option.some.inj h1).symm
      have hpm := List.mem_of_getElem? hp
      have hlm := List.mem_of_getElem? hl
      have hlk := HLok.out l hlm
      have htk : (Ls.take (i + 1)).foldl kvLays (kvLays [] B) = kvLays ((Ls.take i).foldl kvLays (kvLays [] B)) l := by
        rw [List.take_succ_eq_append_getElem hin, (List.getElem?_eq_some_iff.1 hl).2, List.foldl_append]
        rfl
      have HTK := Lib.hid htk
      obtain ⟨lb, lo, hla, hlb⟩ := hp2.shape (by rw [List.length_map]; have := (List.getElem?_eq_some_iff.1 hp).1; omega)
      subst hla
      have y0 : wr.cell? ⟨lb, lo + i, none⟩ = some (.slice p.a (kvEnc l).length p.c) := by
        have h1 : (ps.map Part.v)[i]? = some (.slice p.a (kvEnc l).length p.c) := by rw [List.getElem?_map, hp, ← hpl]; rfl
        obtain ⟨ad, h2, h3⟩ := (hp2.ext hx2 (fun _ _ h => h)).ext hx (fun ad ha e => by cases ha; have e : lb = b := e; omega) i _ h1
        cases h2
        rw [Addr.add_lit] at h3
        exact h3
      have hpr : Rd wr p.a (bs (kvEnc l)) := by
        rw [← hpl]
        have h1 := hp3 p hpm
        refine (h1.ext hx2 (fun _ _ h => h)).ext hx (fun ad ha e => ?_)
        obtain ⟨b0, o0, h2, h3⟩ := h1.shape (by rw [bs_length, hpl]; unfold kvEnc; have := (encI_length l.length ⟨by omega, by omega⟩).2; rw [List.length_append]; omega)
        rw [ha] at h2
        cases h2
        have e : b0 = b := e
        omega
      clear hpl hp hpm hlm hl htk
      go_wp2_with fail
      refine (kvlay_any wr s j b _ hSr hm (by omega) l (by omega) hlk.2 p.a p.c hpr).mono ?_
      rw [← HTK.out]
      rintro e w3 ⟨rfl, hm3, hx3⟩
      have hx3' := hx.comp hx3
      clear hpr y0 hm hx hx3 hSr
      go_wp2_with fail
      go_roundw
      case rel => exact ⟨i + 1, by go_num, by omega, hm3, hx3'⟩
      case measure => simp [intOf]; omega
    · have hiE : i = Ls.length := by omega
      subst hiE
      have d1 : decide (Ls.length < Ls.length) = false := decF (by omega)
      rw [List.take_of_length_le (Nat.le_refl _)] at hm
      have hDr := hD2.ext hx (fun e => by have e : g = b := e; omega) (fun k _ e => .inl (.inr (.inr e)))
      have hJr : Blk wr j (jcells g Ls.length) := hJ2.ext (by simp [jcells]) hx (fun e => by have e : j = b := e; omega)
      have hxw := hx.size
      have hSt : StM wr g s j b ds' Ls.length (Ls.foldl kvLays (kvLays [] B)) M := ⟨⟨hSr, hDr.fewer (fun k _ e => .inl e), hJr, hm, by omega, by omega, by omega, by omega, by omega, by omega⟩, hDr, fun k hk => by have := hM k hk; omega⟩
      have HSt := Lib.hid hSt
      clear hSt hSr hDr hJr hm
      go_wp2_with fail
      go_ret2
      exact ⟨s, j, b, rfl, HSt.out, ⟨by omega, hj1, by omega⟩, hW2.trans hx (fun k hk e => by have e : k = b := e; omega)⟩
end Go.Proofs.Ytpljcnjkdjblmaa
