/- The keys of a collection, gathered and sorted: plain; slices.Sort in plain words; a map looked up. -/
import Derived.Test.YtpljcnjkdjblmaaKvH
import Derived.Test.YtpljcnjkdjblmaaKA
import Derived.Test.YtpljcnjkdjblmaaKvX
import Derived.Test.YtpljcnjkdjblmaaKC
import Derived.Maps.RangeRun
namespace Go.Esc
open Go.RowKit
set_option linter.unusedVariables false
set_option linter.unusedSimpArgs false
def kts (l : List (List UInt8)) : List Value := l.map (fun k => .string (str k))
theorem kts_len (l : List (List UInt8)) : (kts l).length = l.length := List.length_map ..
def srt (l : List (List UInt8)) : List (List UInt8) := l.mergeSort (fun x y => decide (x ≤ y))
theorem srt_perm (l : List (List UInt8)) : (srt l).Perm l := List.mergeSort_perm l _
theorem srt_rise (l : List (List UInt8)) (h : l.Nodup) : (srt l).Pairwise (fun a b => Op.bytesLess a b = true) := by
  have tr : ∀ a b c : List UInt8, decide (a ≤ b) = true → decide (b ≤ c) = true → decide (a ≤ c) = true := fun a b c h1 h2 => by simp only [decide_eq_true_eq] at *; exact List.le_trans h1 h2
  have tt : ∀ a b : List UInt8, (decide (a ≤ b) || decide (b ≤ a)) = true := fun a b => by simp only [Bool.or_eq_true, decide_eq_true_eq]; exact List.le_total a b
  have h1 := List.pairwise_mergeSort tr tt l
  have h2 : (srt l).Nodup := (srt_perm l).nodup_iff.2 h
  refine (List.Pairwise.and h1 h2).imp ?_
  intro a b hab
  obtain ⟨p, q⟩ := hab
  rw [Go.Proofs.bytesLess_eq, decide_eq_true_eq]
  simp only [decide_eq_true_eq] at p
  exact Classical.byContradiction fun hn => q (List.le_antisymm p (List.not_lt.1 hn))
/-- The keys of a collection from a key on, in order. -/
structure KsOk (m : KvM) (c : Int) (start : List UInt8) (ks : List (List UInt8)) : Prop where
  mem : ∀ k, k ∈ ks ↔ (∃ v, ((c, k), v) ∈ m) ∧ Op.bytesLess k start = false
  rise : ks.Pairwise (fun a b => Op.bytesLess a b = true)
theorem KsOk.uniq {m : KvM} {c : Int} {start : List UInt8} {ks ks' : List (List UInt8)} (h : KsOk m c start ks) (h' : KsOk m c start ks') : ks = ks' := by
  have e : ks.map (fun k => PairR.mk k []) = ks'.map (fun k => PairR.mk k []) := by
    refine rising_eq (List.Pairwise.map _ (fun a b hab => hab) h.rise) (List.Pairwise.map _ (fun a b hab => hab) h'.rise) ?_
    intro r
    rw [List.mem_map, List.mem_map]
    constructor
    · rintro ⟨k, hk, rfl⟩; exact ⟨k, (h'.mem k).2 ((h.mem k).1 hk), rfl⟩
    · rintro ⟨k, hk, rfl⟩; exact ⟨k, (h.mem k).2 ((h'.mem k).1 hk), rfl⟩
  have := congrArg (List.map PairR.key) e
  rw [List.map_map, List.map_map] at this
  have i1 : ∀ l : List (List UInt8), l.map (PairR.key ∘ fun k => PairR.mk k []) = l := fun l => (List.map_congr_left (fun k _ => rfl)).trans (List.map_id l)
  rw [i1, i1] at this
  exact this
/-- What has been gathered. -/
def Gath (es : Array MapEntry) (seen : Array Nat) (c : Int) (start : List UInt8) (G : List (List UInt8)) : Prop :=
  G.Nodup ∧ ∀ k, k ∈ G ↔ (∃ e ∈ es.toList, seen.contains e.born = true ∧ e.key = plV (c, k)) ∧ Op.bytesLess k start = false
theorem Gath.nil (es : Array MapEntry) (c : Int) (start : List UInt8) : Gath es #[] c start [] := by
  refine ⟨List.nodup_nil, fun k => ⟨(fun h => by cases h), ?_⟩⟩
  rintro ⟨⟨e, _, h, _⟩, _⟩
  simp at h
theorem Gath.skip {es : Array MapEntry} {seen : Array Nat} {c : Int} {start : List UInt8} {G : List (List UInt8)} (hb : (es.toList.map (·.born)).Nodup) (h : Gath es seen c start G) {e : MapEntry} (he : e ∈ es.toList) (p : PlaceR) (hp : e.key = plV p)
    (hn : ¬ (p.1 = c ∧ Op.bytesLess p.2 start = false)) : Gath es (seen.push e.born) c start G := by
  refine ⟨h.1, fun k => ?_⟩
  rw [h.2]
  constructor
  · rintro ⟨⟨e', h1, h2, h3⟩, h4⟩
    exact ⟨⟨e', h1, by rw [contains_push, h2, Bool.true_or], h3⟩, h4⟩
  · rintro ⟨⟨e', h1, h2, h3⟩, h4⟩
    rw [contains_push, Bool.or_eq_true, beq_iff_eq] at h2
    rcases h2 with h2 | h2
    · exact ⟨⟨e', h1, h2, h3⟩, h4⟩
    · have := born_inj hb h1 he h2
      subst this
      rw [hp] at h3
      have := plV_inj h3
      subst this
      exact absurd ⟨rfl, h4⟩ hn
theorem Gath.take {es : Array MapEntry} {seen : Array Nat} {c : Int} {start : List UInt8} {G : List (List UInt8)} (hb : (es.toList.map (·.born)).Nodup) (hkn : (es.toList.map (·.key)).Nodup) (h : Gath es seen c start G) {e : MapEntry} (he : e ∈ es.toList) (hs : seen.contains e.born = false) (k : List UInt8) (hp : e.key = plV (c, k))
    (hf : Op.bytesLess k start = false) : Gath es (seen.push e.born) c start (G ++ [k]) := by
  have hk : k ∉ G := fun hk => by
    obtain ⟨⟨e', h1, h2, h3⟩, _⟩ := (h.2 k).1 hk
    have key_inj : ∀ l : List MapEntry, (l.map (·.key)).Nodup → e' ∈ l → e ∈ l → e' = e := by
      intro l
      induction l with
      | nil => intro _ h; cases h
      | cons x l ih =>
        intro hn h1 h2
        have hn' : x.key ∉ l.map (·.key) ∧ (l.map (·.key)).Nodup := List.nodup_cons.1 hn
        rcases List.mem_cons.1 h1 with a | a <;> rcases List.mem_cons.1 h2 with b | b
        · rw [a, b]
        · exact absurd (List.mem_map.2 ⟨e, b, by rw [hp, ← h3, a]⟩) hn'.1
        · exact absurd (List.mem_map.2 ⟨e', a, by rw [h3, ← hp, b]⟩) hn'.1
        · exact ih hn'.2 a b
    rw [key_inj es.toList hkn h1 he, hs] at h2
    cases h2
  refine ⟨List.nodup_append.2 ⟨h.1, by simp, fun a ha b hb' => by rw [List.mem_singleton] at hb'; rintro rfl; rw [hb'] at ha; exact hk ha⟩, fun x => ?_⟩
  rw [List.mem_append, List.mem_singleton, h.2]
  constructor
  · rintro (⟨⟨e', h1, h2, h3⟩, h4⟩ | rfl)
    · exact ⟨⟨e', h1, by rw [contains_push, h2, Bool.true_or], h3⟩, h4⟩
    · exact ⟨⟨e, he, by rw [contains_push]; simp, hp⟩, hf⟩
  · rintro ⟨⟨e', h1, h2, h3⟩, h4⟩
    rw [contains_push, Bool.or_eq_true, beq_iff_eq] at h2
    rcases h2 with h2 | h2
    · exact .inl ⟨⟨e', h1, h2, h3⟩, h4⟩
    · have := born_inj hb h1 he h2
      subst this
      rw [hp] at h3
      exact .inr (congrArg Prod.snd (plV_inj h3)).symm
theorem Gath.done {es : Array MapEntry} {seen : Array Nat} {c : Int} {start : List UInt8} {G : List (List UInt8)} {m : KvM} (h : Gath es seen c start G) (h0 : (leftOf es seen).size = 0)
    (hm : es.toList.map (fun e => (e.key, e.val)) = m.map (fun e => (plV e.1, Value.string (str e.2)))) : KsOk m c start (srt G) := by
  refine ⟨fun k => ?_, srt_rise G h.1⟩
  rw [(srt_perm G).mem_iff, h.2]
  have hall := all_seen es seen h0
  constructor
  · rintro ⟨⟨e, h1, _, h3⟩, h4⟩
    have : (e.key, e.val) ∈ m.map (fun e => (plV e.1, Value.string (str e.2))) := by rw [← hm]; exact List.mem_map.2 ⟨e, h1, rfl⟩
    obtain ⟨x, hx, hxe⟩ := List.mem_map.1 this
    have e1 := congrArg Prod.fst hxe
    simp only at e1
    rw [h3] at e1
    have := plV_inj e1
    exact ⟨⟨x.2, by rw [← this]; exact hx⟩, h4⟩
  · rintro ⟨⟨v, hv⟩, h4⟩
    have : (plV (c, k), Value.string (str v)) ∈ es.toList.map (fun e => (e.key, e.val)) := by rw [hm]; exact List.mem_map.2 ⟨((c, k), v), hv, rfl⟩
    obtain ⟨e, he, hee⟩ := List.mem_map.1 this
    exact ⟨⟨e, he, hall e he, congrArg Prod.fst hee⟩, h4⟩
theorem entry_place {es : Array MapEntry} {m : KvM} (hm : es.toList.map (fun e => (e.key, e.val)) = m.map (fun e => (plV e.1, Value.string (str e.2)))) {e : MapEntry} (he : e ∈ es.toList) : ∃ p v, e.key = plV p ∧ e.val = .string (str v) ∧ (p, v) ∈ m := by
  have : (e.key, e.val) ∈ m.map (fun e => (plV e.1, Value.string (str e.2))) := by rw [← hm]; exact List.mem_map.2 ⟨e, he, rfl⟩
  obtain ⟨x, hx, hxe⟩ := List.mem_map.1 this
  exact ⟨x.1, x.2, (congrArg Prod.fst hxe).symm, (congrArg Prod.snd hxe).symm, hx⟩
/-- There are such keys. -/
theorem KsOk.some (m : KvM) (c : Int) (start : List UInt8) (h : m.once) : ∃ ks, KsOk m c start ks ∧ ks.length ≤ m.length := by
  have hq : ((m.filter (fun e => decide (e.1.1 = c) && !Op.bytesLess e.1.2 start)).map (fun e => e.1.2)).Nodup := by
    refine List.pairwise_map.2 (List.Pairwise.imp_of_mem ?_ ((List.pairwise_map.1 h).filter _))
    intro a b ha hb hab e
    rw [List.mem_filter, Bool.and_eq_true, decide_eq_true_eq] at ha hb
    exact hab (Prod.ext (ha.2.1.trans hb.2.1.symm) e)
  refine ⟨srt ((m.filter (fun e => decide (e.1.1 = c) && !Op.bytesLess e.1.2 start)).map (fun e => e.1.2)), ⟨fun k => ?_, srt_rise _ hq⟩, ?_⟩
  · rw [(srt_perm _).mem_iff, List.mem_map]
    constructor
    · rintro ⟨⟨⟨c', k'⟩, v⟩, he, rfl⟩
      rw [List.mem_filter, Bool.and_eq_true, decide_eq_true_eq] at he
      obtain ⟨h1, rfl, h3⟩ := he
      exact ⟨⟨v, h1⟩, by simpa using h3⟩
    · rintro ⟨⟨v, hv⟩, h4⟩
      exact ⟨((c, k), v), by rw [List.mem_filter]; exact ⟨hv, by simp [h4]⟩, rfl⟩
  · rw [(srt_perm _).length_eq, List.length_map]
    exact List.length_filter_le _ _
end Go.Esc
namespace Go.Proofs.Ytpljcnjkdjblmaa
open Go.RowKit Go.Esc Go.Maps Go.Sort
set_option linter.unusedVariables false
set_option linter.unusedSimpArgs false

theorem TStr : SlT Try.prog 111 9 (.string { data := #[] }) 1 16 := ⟨Try.underlying111, by kernel_rfl, rfl, by decide⟩
/-- slices.Sort. -/
theorem kvsort_any (w : World) (B : Nat) (a : Option Addr) (c : Nat) (G : List (List UInt8)) (h : Own w B a 1 G.length c (kts G)) (hl : G.length ≤ 4294967296) :
    Calls Try.prog 57 #[.slice a G.length c] w fun e w' => e = .returned (.tuple #[]) ∧ Own w' B a 1 (srt G).length c (kts (srt G)) ∧ Ext (blk a) w w' := by
  have hlen : (srt G).length = G.length := (srt_perm G).length_eq
  cases G with
  | nil =>
    have hsr : srt [] = [] := by unfold srt; exact List.mergeSort_nil
    rw [hsr]
    refine (AnyM.slices_Sort_string_none Try.sort57 a c w).mono ?_
    rintro e w' ⟨rfl, rfl⟩
    exact ⟨rfl, h, Ext.refl _ _⟩
  | cons k0 G0 =>
    obtain ⟨G, hG⟩ : ∃ G, G = k0 :: G0 := ⟨_, rfl⟩
    rw [← hG] at h hl hlen ⊢
    have hpos : 0 < G.length := by rw [hG]; simp
    obtain ⟨⟨bk, off, sp⟩, ha, _⟩ := h.rd 0 (.string (str (G[0]'hpos))) (by unfold kts; rw [List.getElem?_map, List.getElem?_eq_getElem hpos]; rfl)
    subst ha
    have hadd : ∀ i, ((⟨bk, off, none⟩ : Addr).add i) = ⟨bk, off + i, none⟩ := fun i => by simp [Addr.add]
    have hes : ∀ x, Go.Proofs.encStr x = .string (str x) := fun x => rfl
    have hbase := h.base _ rfl
    have hsp : sp = none := hbase.2.2
    subst hsp
    have hH : Holds Go.Proofs.encStr w bk off G.toArray := by
      intro i hi
      have hi' : i < G.length := by simpa using hi
      obtain ⟨ad, e1, e2⟩ := h.rd i (.string (str (G[i]'hi'))) (by unfold kts; rw [List.getElem?_map, List.getElem?_eq_getElem hi']; rfl)
      obtain ⟨ad', e3, _, e5⟩ := h.can i (by have := h.nc; omega)
      cases e1
      cases e3
      rw [hadd] at e2 e5
      refine ⟨?_, e5⟩
      have : G.toArray[i]! = G[i]'hi' := by rw [getElem!_pos _ i hi]; simp
      rw [this, hes]
      exact e2
    refine (AnyM.slices_Sort_string Try.sort57 bk off c G w hH hbase.2.1 (by omega)).mono ?_
    rintro e w' ⟨rfl, n, os, rfl⟩
    change _ ∧ Own (grow (putRow Go.Proofs.encStr (Go.Sort.ahead w n) bk off (srt G).toArray) os) B _ 1 (srt G).length c (kts (srt G)) ∧ Ext _ w (grow (putRow Go.Proofs.encStr (Go.Sort.ahead w n) bk off (srt G).toArray) os)
    have hH2 := holds_putRow Go.Proofs.encStr (Go.Sort.ahead w n) bk off G.toArray (srt G).toArray hH (by simp [hlen])
    have hb2 : bk < (putRow Go.Proofs.encStr (Go.Sort.ahead w n) bk off (srt G).toArray).heap.size := by rw [size_putRow]; exact hbase.2.1
    have hH3 := holds_grow Go.Proofs.encStr _ os bk off _ hb2 hH2
    refine ⟨rfl, ⟨?_, by rw [kts_len]; omega, by rw [hlen]; exact h.nc, h.cm, ?_, ?_⟩, ?_⟩
    · intro i v hv
      refine ⟨_, rfl, ?_⟩
      have hi : i < (srt G).length := by have := (List.getElem?_eq_some_iff.1 hv).1; rwa [kts_len] at this
      have hv' : v = .string (str ((srt G)[i]'hi)) := by
        have := (List.getElem?_eq_some_iff.1 hv).2
        rw [← this]
        unfold kts
        rw [List.getElem_map]
      have := (hH3 i (by simpa using hi)).1
      rw [getElem!_pos _ i (by simpa using hi)] at this
      rw [hv', hadd, ← hes]
      simpa using this
    · intro i hi
      refine ⟨_, rfl, ?_⟩
      obtain ⟨ad', e3, e4, e5⟩ := h.can i hi
      cases e3
      have e6 := hadd i
      rw [e6] at e4 e5 ⊢
      rw [cell?_grow _ _ _ hb2, frozen?_grow _ _ _ hb2, frozen?_putRow]
      refine ⟨?_, e5⟩
      by_cases hin : i < (srt G).length
      · rw [(hH2 i (by simpa using hin)).1]; rfl
      · rw [cell?_putRow_other _ _ _ _ _ _ (.inr (.inr (by simp; omega)))]; exact e4
    · intro ad had
      cases had
      exact ⟨hbase.1, Nat.lt_of_lt_of_le hb2 (by rw [size_grow]; omega), rfl⟩
    · refine ⟨rfl, rfl, rfl, by rw [size_grow, size_putRow]; simp only [heap_ahead]; omega, ?_⟩
      intro k hk hn
      rw [heap_grow_old _ _ (by rw [size_putRow]; exact hk)]
      show (w.heap.modify bk _)[k]? = _
      rw [Array.getElem?_modify, if_neg (fun e => hn ⟨_, rfl, e⟩)]
theorem mapget1_run {w : World} {b : Nat} {m : KvM} (h : MapIn w b m) (p : PlaceR) (hp : PlOk p) :
    (Instr.lookup 78 (.map (some b)) (plV p) false).run Try.prog w = .ok (.string (str ((kvGet m p).getD []))) w := by
  have hon := h.once
  obtain ⟨es, clock, hb, hs, hm, ho⟩ := h
  obtain ⟨lx, hlx⟩ := plKey p hp
  have hz : (zeroValue 9).run Try.prog w = .ok (.string { data := #[] }) w := by kernel_rfl
  rcases find_place (w := w) hm ho p hp with ⟨h1, h2, h3⟩ | ⟨j, e, u, h1, h2, h3, h4, h5⟩
  · rw [kvGet_none.2 h2]
    simp [Instr.lookup, run_underlying Try.underlying78, MapKept.run_getObj_map hb, KvK.check w _ hlx, h1, hz, Result.andThen]
    rfl
  · have hmem := List.mem_of_getElem? h3
    rw [(kvGet_some hon).2 hmem]
    simp [Instr.lookup, run_underlying Try.underlying78, MapKept.run_getObj_map hb, KvK.check w _ hlx, h1, h5, Result.andThen]
set_option maxRecDepth 100000 in
set_option maxHeartbeats 4000000 in
theorem kvpairs_any (w : World) (s : Nat) (c : Int) (start : List UInt8) :
    Calls Try.prog 41 #[.pointer (some ⟨s, 0, none⟩), .int .i64 c, .string (str start)] w fun e w' => e = .returned (.func (.func 56) #[] #[.pointer (some ⟨w.heap.size, 0, none⟩), .pointer (some ⟨w.heap.size + 1, 0, none⟩), .pointer (some ⟨w.heap.size + 1 + 1, 0, none⟩)]) ∧
      Blk w' w.heap.size [.pointer (some ⟨s, 0, none⟩)] ∧ Blk w' (w.heap.size + 1) [.int .i64 c] ∧ Blk w' (w.heap.size + 1 + 1) [.string (str start)] ∧ Ext no w w' ∧ w'.heap.size = w.heap.size + 1 + 1 + 1 := by
  go_enter Try.func41, Try.ntmps41
  go_wp2_with fail
  go_ret
  refine ⟨rfl, ?_⟩
  have h1 := Blk.lit w #[.pointer (some ⟨s, 0, none⟩)] 28
  have h2 := Blk.at (w.alloc (.cells #[.pointer (some ⟨s, 0, none⟩)] 28)) #[.int .i64 c] 3 (w.heap.size + 1) (by simp)
  have x1 := Ext.alloc no w (.cells #[.pointer (some ⟨s, 0, none⟩)] 28)
  have x2 := Ext.alloc no (w.alloc (.cells #[.pointer (some ⟨s, 0, none⟩)] 28)) (.cells #[.int .i64 c] 3)
  have h3 := Blk.at ((w.alloc (.cells #[.pointer (some ⟨s, 0, none⟩)] 28)).alloc (.cells #[.int .i64 c] 3)) #[.string (str start)] 9 (w.heap.size + 1 + 1) (by simp)
  have x3 := Ext.alloc no ((w.alloc (.cells #[.pointer (some ⟨s, 0, none⟩)] 28)).alloc (.cells #[.int .i64 c] 3)) (.cells #[.string (str start)] 9)
  exact ⟨(h1.ext (by simp) x2 (fun h => h)).ext (by simp) x3 (fun h => h), h2.ext (by simp) x3 (fun h => h), h3, (x1.comp x2).comp x3, by simp⟩
end Go.Proofs.Ytpljcnjkdjblmaa
