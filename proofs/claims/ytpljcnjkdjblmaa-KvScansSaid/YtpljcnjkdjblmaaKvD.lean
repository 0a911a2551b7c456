/- Walks of the package kv: text, bytes, put, Len, Get; maps.Clone. -/
import Derived.Test.YtpljcnjkdjblmaaKvC
import Derived.Test.YtpljcnjkdjblmaaKB
import Derived.Test.YtpljcnjkdjblmaaKA
import Derived.Test.YtpljcnjkdjblmaaKC
import Derived.BigQuiet
import Derived.Deep.QuietTactic
namespace Go.Esc
open Go.RowKit
def ChangeR.cells (c : ChangeR) : List Value := [.int .i64 c.coll, .string (str c.key), .string (str c.val), .bool c.del]
def ChangeR.v (c : ChangeR) : Value := .agg #[.int .i64 c.coll, .string (str c.key), .string (str c.val), .bool c.del]
theorem kChange (c : ChangeR) : (ChangeR.cells c).length = 4 := rfl
theorem oneChange (l : List ChangeR) : ∀ u ∈ rows ChangeR.cells l, u.oneCell' = true := rows_one' (fun x u hu => by simp only [ChangeR.cells, List.mem_cons, List.not_mem_nil, or_false] at hu; rcases hu with rfl | rfl | rfl | rfl <;> rfl) l
theorem one1Change (x : ChangeR) : ∀ u ∈ ChangeR.cells x, u.oneCell' = true := fun u hu => by simp only [ChangeR.cells, List.mem_cons, List.not_mem_nil, or_false] at hu; rcases hu with rfl | rfl | rfl | rfl <;> rfl
/-- What memory holds of a change. -/
structure ChangeR.ok (c : ChangeR) : Prop where
  coll : I64ok c.coll
  key : c.key.length ≤ maxLen
  val : c.val.length ≤ maxLen
theorem ChangeR.ok.at {c : ChangeR} (h : c.ok) : PlOk c.at := ⟨h.coll, h.key⟩
def chEnc (c : ChangeR) : List UInt8 := encI c.coll ++ encI (if c.del = true then 1 else 0) ++ encT c.key ++ encT c.val
def kvEnc (l : List ChangeR) : List UInt8 := encI l.length ++ l.flatMap chEnc
section
variable {P : Program} (w : World)
theorem run_eql_map_nil (t k e : TypeId) (p : Option Nat) (h : P.underlying t = some (.map k e)) :
    (binOp .eql t (.map p) (.map none)).run P w = .ok (.bool p.isNone) w := by
  simp only [binOp]
  have hd : ∀ d, (Op.equalIn (d + 1) t (.map p) (.map none)).run P w = .ok p.isNone w := fun d => by cases p <;> simp [Op.equalIn, run_underlying h]
  simp [show Op.equal t (.map p) (.map none) = Op.equalIn (9999 + 1) t (.map p) (.map none) from rfl, hd 9999]
theorem run_typeAssert_map (t xT k e : TypeId) (v : Value) (h : P.underlying t = some (.map k e)) : (Instr.typeAssert (.iface t v) xT t false).run P w = .ok v w := by
  simp [Instr.typeAssert, run_underlying h, go_sem, Result.andThen]
theorem run_maps_clone {r : Nat} {es : Array MapEntry} {clock : Nat} (t : TypeId) (hb : w.heap[r]? = some (.map es clock)) :
    (Extern.MapsClone.clone #[.iface t (.map (some r))]).run P w = .ok (.iface t (.map (some w.heap.size))) (w.alloc (.map es clock)) := by
  have e : Extern.MapsClone.clone #[.iface t (.map (some r))] = (getObj r >>= fun o => match o with
      | .map entries clock => (newObj (.map entries clock) >>= fun n => pure (.iface t (.map (some n))))
      | _ => stuck "maps.clone: a map expected") := rfl
  rw [e]
  simp [MapKept.run_getObj_map hb, Result.andThen, go_sem]
end
/-- Short texts. -/
def ChangeR.short (c : ChangeR) : Prop := c.key.length ≤ 1000 ∧ c.val.length ≤ 1000
end Go.Esc
namespace Go.Proofs.Ytpljcnjkdjblmaa
open Go.RowKit Go.Esc
set_option linter.unusedVariables false
set_option linter.unusedSimpArgs false

theorem kvtext_any (w : World) (s : List UInt8) (hs : s.length ≤ maxLen) :
    Calls Try.prog 35 #[.string (str s)] w fun e w' => e = .returned (.bool (textOk s)) ∧ w = w' := by
  unfold maxLen at hs
  go_enter Try.func35, Try.ntmps35
  go_wp2_with fail
  go_loopw [6] (fun s6 wr => ∃ j : Nat, j ≤ s.length ∧ s6 = .int .i64 j ∧ (∀ i b, i < j → s[i]? = some b → 32 ≤ b.toNat ∧ b.toNat ≠ 127) ∧ wr = w) (fun s6 _ => s.length - (intOf s6).toNat)
  case atStart => exact ⟨0, by omega, rfl, fun i b h => absurd h (by omega), rfl⟩
  case round =>
    obtain ⟨j, hj, rfl, hgo, rfl⟩ := hrel
    by_cases hjl : j < s.length
    · obtain ⟨b, hb⟩ : ∃ b, s[j]? = some b := ⟨_, List.getElem?_eq_getElem hjl⟩
      have d1 : decide (j < (str s).size) = true := decT (by rw [str_size]; omega)
      have q1 := str_index wr s j b hb
      by_cases hlo : b.toNat < 32
      · have Hr := Lib.hid (show textOk s = false by
          cases h : textOk s with
          | false => rfl
          | true => have := ((textOk_iff s).1 h).2 j b hb; omega)
        have d2 : decide ((b.toNat : Int) < 32) = true := decT (by omega)
        go_wp2_with fail
        go_ret
        exact ⟨by rw [Hr.out]; rfl, rfl⟩
      · have d2 : decide ((b.toNat : Int) < 32) = false := decF (by omega)
        by_cases hde : b.toNat = 127
        · have Hr := Lib.hid (show textOk s = false by
            cases h : textOk s with
            | false => rfl
            | true => have := ((textOk_iff s).1 h).2 j b hb; omega)
          have Hd := Lib.hid hde
          have d3 : ((b.toNat : Int) == 127) = true := by rw [beq_iff_eq]; have := Hd.out; omega
          clear hde
          go_wp2_with fail
          go_ret
          exact ⟨by rw [Hr.out]; rfl, rfl⟩
        · have d3 : ((b.toNat : Int) == 127) = false := by rw [beq_eq_false_iff_ne]; omega
          go_wp2_with fail
          go_roundw
          case rel => exact ⟨j + 1, by omega, by go_num, fun i c hi hc => by
            by_cases e : i = j
            · subst e; rw [hb] at hc; cases hc; omega
            · exact hgo i c (by omega) hc, trivial⟩
          case measure => simp [intOf]; omega
    · have d1 : decide (j < (str s).size) = false := decF (by rw [str_size]; omega)
      by_cases h40 : s.length ≤ 40
      · have Hr := Lib.hid (show textOk s = true from (textOk_iff s).2 ⟨h40, fun i b hb => hgo i b (by have := (List.getElem?_eq_some_iff.1 hb).1; omega) hb⟩)
        have d4 : decide (((str s).size : Int) ≤ 40) = true := decT (by rw [str_size]; omega)
        go_wp2_with fail
        go_ret
        exact ⟨by rw [Hr.out]; rfl, rfl⟩
      · have Hr := Lib.hid (show textOk s = false by
          cases h : textOk s with
          | false => rfl
          | true => have := ((textOk_iff s).1 h).1; omega)
        have d4 : decide (((str s).size : Int) ≤ 40) = false := decF (by rw [str_size]; omega)
        go_wp2_with fail
        go_ret
        exact ⟨by rw [Hr.out]; rfl, rfl⟩

set_option maxRecDepth 100000 in
set_option maxHeartbeats 4000000 in
theorem kvlen_any (w : World) (s j b : Nat) (m : KvM) (hS : Blk w s [.pointer (some ⟨j, 0, none⟩), .map (some b)]) (hm : MapIn w b m) (hsm : m.length ≤ 4294967296) :
    Calls Try.prog 17 #[.pointer (some ⟨s, 0, none⟩)] w fun e w' => e = .returned (.int .i64 m.length) ∧ w = w' := by
  have c1 := hS.cell 1 _ rfl
  have hl := maplen_run hm hsm
  go_enter Try.func17, Try.ntmps17
  go_wp2_with fail
  go_ret
  exact ⟨rfl, rfl⟩

set_option maxRecDepth 100000 in
set_option maxHeartbeats 4000000 in
theorem kvget_any (w : World) (s j b : Nat) (m : KvM) (c : Int) (k : List UInt8) (hS : Blk w s [.pointer (some ⟨j, 0, none⟩), .map (some b)]) (hm : MapIn w b m) (hp : PlOk (c, k)) :
    Calls Try.prog 19 #[.pointer (some ⟨s, 0, none⟩), .int .i64 c, .string (str k)] w fun e w' => e = .returned (.tuple #[.string (str ((kvGet m (c, k)).getD [])), .bool (kvHas m (c, k))]) ∧ w = w' := by
  have c1 := hS.cell 1 _ rfl
  have hg := mapget_run hm (c, k) hp
  unfold plV at hg
  simp only at hg
  go_enter Try.func19, Try.ntmps19
  go_wp2_with fail
  go_ret2
  exact ⟨rfl, rfl⟩

set_option maxRecDepth 100000 in
set_option maxHeartbeats 4000000 in
theorem kvput_any (w : World) (b : Nat) (m : KvM) (c : ChangeR) (hm : MapIn w b m) (hok : c.ok) :
    Calls Try.prog 34 #[c.v, .map (some b)] w fun e w' => e = .returned (.tuple #[]) ∧ MapIn w' b (kvLay m c) ∧ Ext (just b) w w' := by
  have hp := hok.at
  have hblt := hm.lt
  go_enter Try.func34, Try.ntmps34
  unfold ChangeR.v
  go_upto_region 1 with fail
  have hC := Blk.lit w #[.int .i64 c.coll, .string (str c.key), .string (str c.val), .bool c.del] 39
  have hx1 := Ext.alloc no w (.cells #[.int .i64 c.coll, .string (str c.key), .string (str c.val), .bool c.del] 39)
  generalize w.alloc (.cells #[.int .i64 c.coll, .string (str c.key), .string (str c.val), .bool c.del] 39) = w1 at *
  obtain ⟨g, hg⟩ : ∃ g, g = w.heap.size := ⟨_, rfl⟩
  have hbg : b < g := by omega
  rw [← hg] at hC ⊢
  have hz1 := hC.lt (by simp)
  clear hg
  have c0 := hC.cell 0 _ rfl
  have c1 := hC.cell 1 _ rfl
  go_upto_region 2 with fail
  have hA := Blk.lit w1 #[.int .i64 c.coll, .string (str c.key)] 84
  have hx2 := Ext.alloc no w1 (.cells #[.int .i64 c.coll, .string (str c.key)] 84)
  have hC2 := hC.ext (by simp) hx2 (fun h => h)
  generalize w1.alloc (.cells #[.int .i64 c.coll, .string (str c.key)] 84) = w2 at *
  have hz2 := hA.lt (by simp)
  obtain ⟨ga, hga⟩ : ∃ ga, ga = w1.heap.size := ⟨_, rfl⟩
  have hbga : b < ga := by omega
  rw [← hga] at hA hz2 ⊢
  clear hga c0 c1 hC
  have hm2 := (hm.no hx1).no hx2
  have hW := hx1.comp hx2
  clear hx1 hx2
  obtain ⟨w3, hup, hm3, hx3⟩ := mapput_run hm2 c.at hp c.val
  unfold plV ChangeR.at at hup
  simp only at hup
  have a0 := hA.cell 0 _ rfl
  have a1 := hA.cell 1 _ rfl
  have c2 := hC2.cell 2 _ rfl
  have hA3 := hA.ext (by simp) hx3 (fun e => by have e : ga = b := e; omega)
  have hC3 := hC2.ext (by simp) hx3 (fun e => by have e : g = b := e; omega)
  have c3 := hC3.cell 3 _ rfl
  have b0 := hA3.cell 0 _ rfl
  have b1 := hA3.cell 1 _ rfl
  have hd4 := mapdel_run hm3 c.at hp
  unfold plV ChangeR.at at hd4
  simp only at hd4
  cases hdel : c.del with
  | true =>
    rw [hdel] at c3
    obtain ⟨w4, hrun, hm4, hx4⟩ := hd4
    clear hm2 hm3 hC2 hA hC3 hA3
    go_wp2_with fail
    go_end0
    refine ⟨rfl, ?_, (hW.mono (fun _ _ h => h.elim)).comp (hx3.comp hx4)⟩
    unfold kvLay
    rw [if_pos hdel]
    exact hm4
  | false =>
    rw [hdel] at c3
    clear hd4
    go_wp2_with fail
    go_end0
    refine ⟨rfl, ?_, (hW.mono (fun _ _ h => h.elim)).comp hx3⟩
    unfold kvLay
    rw [if_neg (by rw [hdel]; simp)]
    exact hm3

set_option maxRecDepth 100000 in
set_option maxHeartbeats 4000000 in
theorem kvclone_any (w : World) (b : Nat) (m : KvM) (hm : MapIn w b m) :
    Calls Try.prog 33 #[.map (some b)] w fun e w' => e = .returned (.map (some w.heap.size)) ∧ MapIn w' w.heap.size m ∧ Ext no w w' ∧ w'.heap.size = w.heap.size + 1 := by
  obtain ⟨es, clock, hb, hcp⟩ := hm.copy
  have hq := fun w => run_eql_map_nil (P := Try.prog) w 78 _ _ (some b) Try.underlying78
  go_enter Try.func33, Try.ntmps33
  go_wp2_with fail
  rw [run_callFunc_extern Try.func49 (by kernel_rfl) (by kernel_rfl) (by kernel_rfl) (e := Extern.MapsClone.clone) (by kernel_rfl), run_maps_clone w 78 hb]
  simp only [Result.andThen]
  rw [Oper.upon_value]
  go_wp2_with fail
  rw [run_typeAssert_map _ 78 20 _ _ _ Try.underlying78]
  simp only [Result.andThen]
  rw [Oper.upon_value]
  go_wp2_with fail
  go_ret
  exact ⟨rfl, hcp, Ext.alloc no _ _, by simp⟩

end Go.Proofs.Ytpljcnjkdjblmaa
