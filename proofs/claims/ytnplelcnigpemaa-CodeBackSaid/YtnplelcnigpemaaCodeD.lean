/- Walks of the package code: Text, Ints. -/
import Derived.Test.YtnplelcnigpemaaCodeC
namespace Go.Proofs.Ytnplelcnigpemaa
open Go.RowKit Go.Esc

set_option maxHeartbeats 400000 in
theorem text_any (w : World) (a : Option Addr) (c : Nat) (l t : List UInt8) (hrd : Rd w a (bs l)) (hl : l.length ≤ 274877906944) (hs : t.length ≤ 274877906944) :
    Calls Try.prog 16 #[.slice a l.length c, .string (str t)] w fun e w' => ∃ a' c', e = .returned (.slice a' (l ++ encT t).length c') ∧ Own w' w.heap.size a' 1 (l ++ encT t).length c' (bs (l ++ encT t)) ∧ Ext no w w' := by
  have hn : I64ok t.length := ⟨by omega, by omega⟩
  have hz := zig_lt t.length hn.1 hn.2
  have hr := (row_length (zig t.length) hz).1
  have hll : (l ++ encI t.length).length ≤ 274877906964 := by rw [List.length_append, encI]; omega
  have hsz := str_size t

  go_enter Try.func16, Try.ntmps16
  go_wp2_with fail
  refine (int_any w a c l t.length hrd (by omega) hn).mono ?_
  rintro e w1 ⟨a1, c1, rfl, hown1, hext1⟩
  generalize hm : l ++ encI t.length = m at *
  have Hm := Lib.hid hm
  clear hm
  go_wp2_with (first
    | (with_reducible show wpList _ _ _ _ _ _
       refine wpList_bytes_of (by exact Try.underlying9) (by exact Try.underlying24) (by exact Try.underlying5) rfl rfl rfl w1.heap.size (Nat.le_refl _) ?c1 ?_))
  case c1 => rw [hsz]; unfold maxLen; omega
  intro a2 c2 w2 hown2 hext2
  rw [str_list] at hown2
  go_wp2_with fail
  refine (concat_any _ _ 2 [⟨a1, m, c1⟩, ⟨a2, t, c2⟩] (by simp) (Rd.lit w2 _ _ _) ?_ ?_).mono ?_
  · intro p hp
    simp only [List.mem_cons, List.not_mem_nil, or_false] at hp
    rcases hp with rfl | rfl
    · exact (hown1.rd.ext hext2 (fun _ _ h => h)).alloc _
    · exact hown2.rd.alloc _
  · have : (flat [⟨a1, m, c1⟩, ⟨a2, t, c2⟩]).length = m.length + t.length := by simp [flat]
    rw [this]; omega
  · rintro e w3 ⟨a3, c3, rfl, hown3, hext3⟩
    go_wp2_with fail
    go_ret
    have hf : flat [⟨a1, m, c1⟩, ⟨a2, t, c2⟩] = l ++ encT t := by simp [flat, encT, ← Hm.out]
    rw [hf] at hown3
    refine ⟨a3, c3, ?_, hown3.mono (by have := hext1.size; have := hext2.size; simp; omega), ((hext1.comp hext2).comp (Ext.alloc no _ _)).comp hext3⟩
    rw [← hf]; rfl

set_option maxHeartbeats 400000 in
theorem ints_any (w : World) (a b : Option Addr) (c cb : Nat) (l : List UInt8) (t : List Int) (hra : Rd w a (bs l)) (hl : l.length ≤ 274877906944)
    (hrd : Rd w b (is t)) (ht : t.length ≤ 17179869184) (hok : ∀ n ∈ t, I64ok n) :
    Calls Try.prog 18 #[.slice a l.length c, .slice b t.length cb] w fun e w' => ∃ a' c', e = .returned (.slice a' (l ++ encL t).length c') ∧ Own w' w.heap.size a' 1 (l ++ encL t).length c' (bs (l ++ encL t)) ∧ Ext no w w' := by
  have hn : I64ok t.length := ⟨by omega, by omega⟩
  have hsm : ∀ k, (l ++ encLk t k).length ≤ l.length + 10 + k * 10 := by
    intro k
    have := encLk_length t hn hok k
    rw [List.length_append]; omega
  go_enter Try.func18, Try.ntmps18
  go_wp2_with fail
  refine (int_any w a c l t.length hra (by omega) hn).mono ?_
  rintro e w1 ⟨a1, c1, rfl, hown, hext⟩
  have e0 : l ++ encI t.length = l ++ encLk t 0 := by simp [encLk]
  rw [e0] at hown ⊢
  have Hsm := Lib.hid hsm
  clear hsm e0
  generalize hm : l ++ encLk t 0 = m at *
  have Hm := Lib.hid hm
  clear hm
  go_wp2_with fail
  go_loopw [5, 7, 14] (fun s5 _ s14 wr => ∃ (k : Nat) (a' : Option Addr) (c' : Nat) (m : List UInt8), k ≤ t.length ∧ m = l ++ encLk t k ∧ s14 = .int .i64 k ∧ s5 = .slice a' m.length c' ∧
      Own wr w.heap.size a' 1 m.length c' (bs m) ∧ Ext no w wr) (fun _ _ s14 _ => t.length - (intOf s14).toNat)
  case atStart => exact ⟨0, a1, c1, m, Nat.zero_le _, Hm.out.symm, rfl, rfl, hown, hext⟩
  case round =>
    clear Hm hown hext
    obtain ⟨k, a', c', m, hk, hm, rfl, rfl, hown, hext⟩ := hrel
    have hk1 := Hsm.out k
    rw [← hm] at hk1
    have Hm := Lib.hid hm
    clear hm
    by_cases hlt : k < t.length
    · obtain ⟨ad, rfl, _⟩ := hrd.ne (by simp; omega)
      have hc := hext.keeps (hrd.cell k (by simpa using hlt)) (fun h => h)
      rw [show (is t)[k]'(by simpa using hlt) = .int .i64 t[k] from by simp [is, I64]] at hc
      have hokk := hok t[k] (by simp)
      have hz := zig_lt t[k] hokk.1 hokk.2
      have hr := (row_length (zig t[k]) hz).1
      go_wp2_with fail
      refine (turned_any t[k] wr hokk.1 hokk.2).mono ?_
      rintro e w2 ⟨rfl, rfl⟩
      go_wp2_with fail
      refine (row_any (zig t[k]) hz wr).mono ?_
      rintro e w2 ⟨a2, c2, rfl, hown2, hext2⟩
      have hs2 := hext2.size
      have hs1 := hext.size
      go_wp2_with (at_builtin; refine wpList_append TBytes rfl rfl rfl (hown.ext hext2 (fun _ _ h => h)) rfl hown2.rd (by simp) (bs_one _) ?c1 ?c2 ?c3 ?_)
      case c1 => unfold maxLen; omega
      case c2 => omega
      case c3 => omega
      intro a3 c3 w3 happ
      have hex3 : Ext no w w3 := Ext.ofBelow ((hext.comp hext2).belowAll.trans ((hown.ext hext2 (fun _ _ h => h)).below happ.ext (by omega))) (Nat.le_refl _)
      have hown3 := happ.own
      clear happ
      go_wp2_with fail
      go_roundw
      case rel =>
        have e1 : m ++ row (zig t[k]) = l ++ encLk t (k + 1) := by rw [Hm.out, encLk_succ t k hlt, List.append_assoc]; rfl
        refine ⟨k + 1, a3, c3, m ++ row (zig t[k]), by omega, e1, by go_num, by rw [List.length_append], ?_, hex3⟩
        rw [List.length_append, bs_append]; exact hown3
      case measure => simp [intOf]; omega
    · obtain rfl : k = t.length := by omega
      go_wp2_with fail
      refine (clone_any wr a' c' m hown.rd (by omega)).mono ?_
      rintro e w2 ⟨a2, c2, rfl, hown2, hext2⟩
      go_wp2_with fail
      go_ret
      have e1 : m = l ++ encL t := by rw [Hm.out, encLk_all]
      subst e1
      exact ⟨a2, c2, rfl, hown2.mono hext.size, hext.comp hext2⟩

set_option maxHeartbeats 400000 in
theorem within_any (a n : Int) (w : World) (h1 : 0 < n) (h2 : n ≤ 4611686018427387904) (h3 : I64ok a) :
    Calls Try.prog 13 #[.int .i64 a, .int .i64 n] w fun e w' => e = .returned (.int .i64 (a % n)) ∧ w = w' := by
  obtain ⟨h3, h4⟩ := h3
  have hb := Int.tmod_lt_of_pos a h1
  have hb' : -n ≤ a.tmod n := by
    have := tmod_pos a n h1
    have e1 := Int.emod_nonneg a (show n ≠ 0 by omega)
    have e2 := Int.emod_lt_of_pos a h1
    generalize a % n = q at *
    split at this <;> omega
  have he := tmod_pos a n h1
  have He := Lib.hid he
  clear he
  by_cases hn : a.tmod n < 0
  · go_enter Try.func13, Try.ntmps13
    go_wp2
    go_ret
    exact ⟨by rw [He.out, if_pos (by omega)]; rfl, rfl⟩
  · go_enter Try.func13, Try.ntmps13
    go_wp2
    go_ret
    exact ⟨by rw [He.out, if_neg (by omega)]; rfl, rfl⟩

end Go.Proofs.Ytnplelcnigpemaa
