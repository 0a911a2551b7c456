/- Walks of the package code: Text, Ints. -/
import Derived.Test.YtpljcnjkdjblmaaCodeC
namespace Go.Proofs.Ytpljcnjkdjblmaa
open Go.RowKit Go.Esc

set_option maxHeartbeats 400000 in
theorem text_any (w : World) (a : Option Addr) (c : Nat) (l t : List UInt8) (hrd : Rd w a (bs l)) (hl : l.length ≤ 274877906944) (hs : t.length ≤ 274877906944) :
    Calls Try.prog 55 #[.slice a l.length c, .string (str t)] w fun e w' => ∃ a' c', e = .returned (.slice a' (l ++ encT t).length c') ∧ Own w' w.heap.size a' 1 (l ++ encT t).length c' (bs (l ++ encT t)) ∧ Ext no w w' := by
  have hn : I64ok t.length := ⟨by omega, by omega⟩
  have hz := zig_lt t.length hn.1 hn.2
  have hr := (row_length (zig t.length) hz).1
  have hll : (l ++ encI t.length).length ≤ 274877906964 := by rw [List.length_append, encI]; omega
  have hsz := str_size t

  go_enter Try.func55, Try.ntmps55
  go_wp2_with fail
  refine (int_any w a c l t.length hrd (by omega) hn).mono ?_
  rintro e w1 ⟨a1, c1, rfl, hown1, hext1⟩
  generalize hm : l ++ encI t.length = m at *
  have Hm := Lib.hid hm
  clear hm
  go_wp2_with (first
    | (with_reducible show wpList _ _ _ _ _ _; refine wpList_bytes_of (by exact Try.underlying9) (by exact Try.underlying37) (by exact Try.underlying5) rfl rfl rfl w1.heap.size (Nat.le_refl _) ?c1 ?_))
  case c1 => rw [hsz]; unfold maxLen; omega
  intro a2 c2 w2 hown2 hext2
  rw [str_list] at hown2
  go_wp2_with fail
  refine (concat_any _ _ 2 [⟨a1, m, c1⟩, ⟨a2, t, c2⟩] (by simp) (Rd.lit w2 _ _ _) ?_ ?_).mono ?_
  · intro p hp
    simp only [List.mem_cons, List.not_mem_nil, or_false] at hp
    rcases hp with rfl | rfl
    · exact (hown1.rd.ext hext2 (fun _ _ h => h)).alloc _
    · exact hown2.rd.alloc _
  · have : (flat [⟨a1, m, c1⟩, ⟨a2, t, c2⟩]).length = m.length + t.length := by simp [flat]
    rw [this]; omega
  · rintro e w3 ⟨a3, c3, rfl, hown3, hext3⟩
    go_wp2_with fail
    go_ret
    have hf : flat [⟨a1, m, c1⟩, ⟨a2, t, c2⟩] = l ++ encT t := by simp [flat, encT, ← Hm.out]
    rw [hf] at hown3
    refine ⟨a3, c3, ?_, hown3.mono (by have := hext1.size; have := hext2.size; simp; omega), ((hext1.comp hext2).comp (Ext.alloc no _ _)).comp hext3⟩
    rw [← hf]; rfl

end Go.Proofs.Ytpljcnjkdjblmaa
