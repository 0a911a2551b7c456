/- The walk of the law JournalPlays: some of its acts. -/
import Derived.Test.YtbmkmbankflbpaaJoQ
import Derived.Test.YtbmkmbankflbpaaRegionF
import Derived.Deep.CutBlock
namespace Go.Proofs.Ytbmkmbankflbpaa
open Go.RowKit Go.Esc
set_option linter.unusedVariables false
set_option linter.unusedSimpArgs false

set_option maxRecDepth 1000000 in
set_option maxHeartbeats 8000000 in
theorem act5 (w w1 : World) (g x cb k : Nat) (s : DS) (M : Nat → Prop) (v9 v13 : Value) (r : CallR) (P : Pr w w1 g x s M v9 v13 (2097152 + k)) (hdn : s.done ≤ 2 * k) (hk2 : k < 80) (hMc : ∀ i, M i → i ≠ cb) (b0 : w1.cell? ⟨cb, 0, none⟩ = some (.int .i64 r.kind)) (b1 : w1.cell? ⟨cb, 1, none⟩ = some (.int .i64 r.n)) (b2 : w1.cell? ⟨cb, 2, none⟩ = some (.slice r.a r.b.length r.c))
    (hrk : I64ok r.kind) (hrn : I64ok r.n) (hrd : Rd w r.a (bs r.b)) (hbig : ¬ 200 < r.b.length) (HQ : Hid (5 = r.kind % 9)) (Q : Exit → Act → World → Prop) (c0 c1 c2 c3 c4 c6 c8 c10 c11 c12 c14 c15 c16 c17 c21 c22 c23 c24 c25 c26 c27 c28 c29 c30 c31 c32 c33 c34 c35 c36 c37 c38 c39 c40 c41 c42 c43 c44 c45 c46 c47 c48 c49 c50 c51 c52 c53 c54 c55 c56 c57 c58 c59 c60 c61 c62 c63 c64 c65 c66 c67 c68 c69 c70 c71 c72 c73 c74 c75 c76 c77 c78 c79 c80 c81 c82 c83 c85 c86 c87 c88 c89 c90 c91 c92 c93 c94 c95 c96 c97 c98 c99 c100 c101 c102 c103 c104 c105 c106 c107 c108 c109 c110 c111 c112 c113 c114 c115 c116 c117 c118 c119 c120 c121 c122 c123 c124 c125 c126 c127 c128 c129 c130 c131 c132 c133 c134 c135 c136 c137 c138 c139 c140 c141 c142 c143 c144 c145 c146 c147 c148 c149 c150 c151 c152 c153 c154 c155 c156 c157 c158 c159 c160 c161 c162 c163 c164 c165 c166 c167 c168 c169 c170 c171 c172 c173 c174 c175 c176 c177 c178 c179 c180 c181 c182 c183 c184 c185 c186 c187 c188 c189 c190 c191 c192 c193 c194 c195 c196 c197 c198 c199 c200 c201 c202 c203 c204 c205 c206 c207 c208 c209 c210 c211 c212 c213 c214 c215 c216 c217 c218 c219 c220 c221 c222 c223 c224 c225 : Value)
    (hQ : ∀ (S : DS) (e : Nat) (M' : Nat → Prop) (v u : Value) (wx : World) (u21 u22 u23 u24 u25 u26 u27 u28 u85 u86 u87 u88 u89 u90 u91 u92 u93 u94 u95 u96 u97 u98 u99 u100 u101 u102 u103 u104 u105 u106 u107 u108 u109 u110 u111 u112 u113 u114 u115 u116 u117 u118 u119 u120 u121 u122 u123 u124 u125 u126 u127 u128 u129 u130 u131 u132 u133 u134 u135 u136 u137 u138 u139 u140 u141 u142 u143 u144 u145 u146 u147 u148 u149 u150 u151 u152 u153 u154 u155 u156 u157 u158 u159 u160 u161 u162 u163 u164 u165 u166 u167 u168 u169 u170 u171 u172 u173 u174 u175 u176 u177 u178 u179 u180 u181 u182 u183 u184 u185 u186 u187 : Value), S.done ≤ 2 * k + 2 → Pr w wx g x S M' v u (2097153 + k) → Q .normal ⟨#[c0, c1, c2, c3, c4, .pointer (some ⟨g, 0, none⟩), c6, .pointer (some ⟨x, 0, none⟩), c8, v, c10, c11, c12, u, c14, c15, c16, c17, .pointer (some ⟨cb, 0, none⟩), .int .i64 e, .int .i64 e, u21, u22, u23, u24, u25, u26, u27, u28, c29, c30, c31, c32, c33, c34, c35, c36, c37, c38, c39, c40, c41, c42, c43, c44, c45, c46, c47, c48, c49, c50, c51, c52, c53, c54, c55, c56, c57, c58, c59, c60, c61, c62, c63, c64, c65, c66, c67, c68, c69, c70, c71, c72, c73, c74, c75, c76, c77, c78, c79, c80, c81, c82, c83, .int .i64 5, u85, u86, u87, u88, u89, u90, u91, u92, u93, u94, u95, u96, u97, u98, u99, u100, u101, u102, u103, u104, u105, u106, u107, u108, u109, u110, u111, u112, u113, u114, u115, u116, u117, u118, u119, u120, u121, u122, u123, u124, u125, u126, u127, u128, u129, u130, u131, u132, u133, u134, u135, u136, u137, u138, u139, u140, u141, u142, u143, u144, u145, u146, u147, u148, u149, u150, u151, u152, u153, u154, u155, u156, u157, u158, u159, u160, u161, u162, u163, u164, u165, u166, u167, u168, u169, u170, u171, u172, u173, u174, u175, u176, u177, u178, u179, u180, u181, u182, u183, u184, u185, u186, u187, c188, c189, c190, c191, c192, c193, c194, c195, c196, c197, c198, c199, c200, c201, c202, c203, c204, c205, c206, c207, c208, c209, c210, c211, c212, c213, c214, c215, c216, c217, c218, c219, c220, c221, c222, c223, c224, c225], []⟩ wx) :
    Code.wp Try.prog swB Q ⟨#[c0, c1, c2, c3, c4, .pointer (some ⟨g, 0, none⟩), c6, .pointer (some ⟨x, 0, none⟩), c8, v9, c10, c11, c12, v13, c14, c15, c16, c17, .pointer (some ⟨cb, 0, none⟩), .int .i64 0, .int .i64 0, c21, c22, c23, c24, c25, c26, c27, c28, c29, c30, c31, c32, c33, c34, c35, c36, c37, c38, c39, c40, c41, c42, c43, c44, c45, c46, c47, c48, c49, c50, c51, c52, c53, c54, c55, c56, c57, c58, c59, c60, c61, c62, c63, c64, c65, c66, c67, c68, c69, c70, c71, c72, c73, c74, c75, c76, c77, c78, c79, c80, c81, c82, c83, .int .i64 5, c85, c86, c87, c88, c89, c90, c91, c92, c93, c94, c95, c96, c97, c98, c99, c100, c101, c102, c103, c104, c105, c106, c107, c108, c109, c110, c111, c112, c113, c114, c115, c116, c117, c118, c119, c120, c121, c122, c123, c124, c125, c126, c127, c128, c129, c130, c131, c132, c133, c134, c135, c136, c137, c138, c139, c140, c141, c142, c143, c144, c145, c146, c147, c148, c149, c150, c151, c152, c153, c154, c155, c156, c157, c158, c159, c160, c161, c162, c163, c164, c165, c166, c167, c168, c169, c170, c171, c172, c173, c174, c175, c176, c177, c178, c179, c180, c181, c182, c183, c184, c185, c186, c187, c188, c189, c190, c191, c192, c193, c194, c195, c196, c197, c198, c199, c200, c201, c202, c203, c204, c205, c206, c207, c208, c209, c210, c211, c212, c213, c214, c215, c216, c217, c218, c219, c220, c221, c222, c223, c224, c225], []⟩ w1 := by
  conv => arg 2; whnf
  have hcg' := (hMc g P.Mg).symm
  have hcx' := (hMc x P.Mx).symm
  have Pd := P.no (Ext.drew no w1)
  go_upto_region 27 with fail
  refine wp_calm ?_
  refine wp_region_F [4] (looks [(4, fun z => World.cell? z ⟨cb, 1, none⟩ = some (.int .i64 r.n))]) (by kernel_rfl) ?_
  have hT0 : ∀ k, looks [(4, fun z => World.cell? z ⟨cb, 1, none⟩ = some (.int .i64 r.n))] k (w1.drew) := looks_all ⟨b1, trivial⟩
  refine wpF_take 0 (v := ?_) rfl (by kernel_rfl) (by kernel_rfl) (by kernel_rfl) (fun c _ _ h => absurd rfl (h.1 c)) hT0 (by rfl) ?_ ?_
  rotate_left
  · (intro wq; go_simp; try with_reducible rfl)
  simp only [Act.put, List.setIfInBounds_toArray, List.set_cons_zero, List.set_cons_succ]
  refine wpF_take 1 (v := ?_) rfl (by kernel_rfl) (by kernel_rfl) (by kernel_rfl) (fun c _ _ h => absurd rfl (h.1 c)) hT0 (by rfl) ?_ ?_
  rotate_left
  · (intro wq; go_simp; try with_reducible rfl)
  simp only [Act.put, List.setIfInBounds_toArray, List.set_cons_zero, List.set_cons_succ]
  refine wpF_take 2 (v := ?_) rfl (by kernel_rfl) (by kernel_rfl) (by kernel_rfl) (fun c _ _ h => absurd rfl (h.1 c)) hT0 (by rfl) ?_ ?_
  rotate_left
  · (intro wq; go_simp; try with_reducible rfl)
  simp only [Act.put, List.setIfInBounds_toArray, List.set_cons_zero, List.set_cons_succ]
  refine wpF_take 3 (v := ?_) rfl (by kernel_rfl) (by kernel_rfl) (by kernel_rfl) (fun c _ _ h => absurd rfl (h.1 c)) hT0 (by rfl) ?_ ?_
  rotate_left
  · (intro wq; go_simp; try with_reducible rfl)
  simp only [Act.put, List.setIfInBounds_toArray, List.set_cons_zero, List.set_cons_succ]
  refine wpF_look 4 (v := .int .i64 r.n) rfl rfl (by kernel_rfl) (by kernel_rfl) (by kernel_rfl) (by kernel_rfl) (fun c _ _ h => absurd rfl (h.1 c)) hT0 (by rfl) (fun w hS => by have hS : World.cell? w ⟨cb, 1, none⟩ = some (.int .i64 r.n) := hS; go_simp) ?_
  simp only [Act.put, List.setIfInBounds_toArray, List.set_cons_zero, List.set_cons_succ]
  refine wpF_exec 5 rfl (by kernel_rfl) (by rfl) ?_
  intro K hK
  go_simp
  refine (stop_any w1.drew g s M Pd.D r.n hrn).mono ?_
  rintro e w4 ⟨rfl, hD4, hx4⟩
  obtain ⟨hR4, lt4, x4⟩ := Pd.mid hx4
  have e4 := hx4.keeps b1 (fun h => hcg' h)
  have hT1 : ∀ k, looks [(4, fun z => World.cell? z ⟨cb, 1, none⟩ = some (.int .i64 r.n))] k (w4) := looks_all ⟨e4, trivial⟩
  refine hK _ _ (looks [(4, fun z => World.cell? z ⟨cb, 1, none⟩ = some (.int .i64 r.n))]) ⟨.inr (.inl (by kernel_rfl)), trivial⟩ hT1 ?_
  clear hK K
  try simp only [Act.put, List.setIfInBounds_toArray, List.set_cons_zero, List.set_cons_succ]
  refine wpF_done (by kernel_rfl) ?_ _
  refine ⟨(fun _ h => by cases h), ?_⟩
  go_wp2_with fail
  refine (refstop_any w4 x s M hR4 r.n hrn).mono ?_
  rintro e w5 ⟨rfl, hR5, hx5⟩
  have P5 := Pd.both hx4 hD4 hx5 hR5 (DS.ok_stop Pd.ok r.n hrn)
  clear e4
  go_wp2_with fail
  exact hQ (s.stop r.n) (0) (M) _ _ _ _ _ _ _ _ _ _ _ _ _ _ _ _ _ _ _ _ _ _ _ _ _ _ _ _ _ _ _ _ _ _ _ _ _ _ _ _ _ _ _ _ _ _ _ _ _ _ _ _ _ _ _ _ _ _ _ _ _ _ _ _ _ _ _ _ _ _ _ _ _ _ _ _ _ _ _ _ _ _ _ _ _ _ _ _ _ _ _ _ _ _ _ _ _ _ _ _ _ _ _ _ _ _ _ _ _ _ _ _ _ _ (show s.done ≤ _ by omega) (P5.mono (by omega))
set_option maxRecDepth 1000000 in
set_option maxHeartbeats 8000000 in
theorem act6 (w w1 : World) (g x cb k : Nat) (s : DS) (M : Nat → Prop) (v9 v13 : Value) (r : CallR) (P : Pr w w1 g x s M v9 v13 (2097152 + k)) (hdn : s.done ≤ 2 * k) (hk2 : k < 80) (hMc : ∀ i, M i → i ≠ cb) (b0 : w1.cell? ⟨cb, 0, none⟩ = some (.int .i64 r.kind)) (b1 : w1.cell? ⟨cb, 1, none⟩ = some (.int .i64 r.n)) (b2 : w1.cell? ⟨cb, 2, none⟩ = some (.slice r.a r.b.length r.c))
    (hrk : I64ok r.kind) (hrn : I64ok r.n) (hrd : Rd w r.a (bs r.b)) (hbig : ¬ 200 < r.b.length) (HQ : Hid (6 = r.kind % 9)) (Q : Exit → Act → World → Prop) (c0 c1 c2 c3 c4 c6 c8 c10 c11 c12 c14 c15 c16 c17 c21 c22 c23 c24 c25 c26 c27 c28 c29 c30 c31 c32 c33 c34 c35 c36 c37 c38 c39 c40 c41 c42 c43 c44 c45 c46 c47 c48 c49 c50 c51 c52 c53 c54 c55 c56 c57 c58 c59 c60 c61 c62 c63 c64 c65 c66 c67 c68 c69 c70 c71 c72 c73 c74 c75 c76 c77 c78 c79 c80 c81 c82 c83 c85 c86 c87 c88 c89 c90 c91 c92 c93 c94 c95 c96 c97 c98 c99 c100 c101 c102 c103 c104 c105 c106 c107 c108 c109 c110 c111 c112 c113 c114 c115 c116 c117 c118 c119 c120 c121 c122 c123 c124 c125 c126 c127 c128 c129 c130 c131 c132 c133 c134 c135 c136 c137 c138 c139 c140 c141 c142 c143 c144 c145 c146 c147 c148 c149 c150 c151 c152 c153 c154 c155 c156 c157 c158 c159 c160 c161 c162 c163 c164 c165 c166 c167 c168 c169 c170 c171 c172 c173 c174 c175 c176 c177 c178 c179 c180 c181 c182 c183 c184 c185 c186 c187 c188 c189 c190 c191 c192 c193 c194 c195 c196 c197 c198 c199 c200 c201 c202 c203 c204 c205 c206 c207 c208 c209 c210 c211 c212 c213 c214 c215 c216 c217 c218 c219 c220 c221 c222 c223 c224 c225 : Value)
    (hQ : ∀ (S : DS) (e : Nat) (M' : Nat → Prop) (v u : Value) (wx : World) (u21 u22 u23 u24 u25 u26 u27 u28 u85 u86 u87 u88 u89 u90 u91 u92 u93 u94 u95 u96 u97 u98 u99 u100 u101 u102 u103 u104 u105 u106 u107 u108 u109 u110 u111 u112 u113 u114 u115 u116 u117 u118 u119 u120 u121 u122 u123 u124 u125 u126 u127 u128 u129 u130 u131 u132 u133 u134 u135 u136 u137 u138 u139 u140 u141 u142 u143 u144 u145 u146 u147 u148 u149 u150 u151 u152 u153 u154 u155 u156 u157 u158 u159 u160 u161 u162 u163 u164 u165 u166 u167 u168 u169 u170 u171 u172 u173 u174 u175 u176 u177 u178 u179 u180 u181 u182 u183 u184 u185 u186 u187 : Value), S.done ≤ 2 * k + 2 → Pr w wx g x S M' v u (2097153 + k) → Q .normal ⟨#[c0, c1, c2, c3, c4, .pointer (some ⟨g, 0, none⟩), c6, .pointer (some ⟨x, 0, none⟩), c8, v, c10, c11, c12, u, c14, c15, c16, c17, .pointer (some ⟨cb, 0, none⟩), .int .i64 e, .int .i64 e, u21, u22, u23, u24, u25, u26, u27, u28, c29, c30, c31, c32, c33, c34, c35, c36, c37, c38, c39, c40, c41, c42, c43, c44, c45, c46, c47, c48, c49, c50, c51, c52, c53, c54, c55, c56, c57, c58, c59, c60, c61, c62, c63, c64, c65, c66, c67, c68, c69, c70, c71, c72, c73, c74, c75, c76, c77, c78, c79, c80, c81, c82, c83, .int .i64 6, u85, u86, u87, u88, u89, u90, u91, u92, u93, u94, u95, u96, u97, u98, u99, u100, u101, u102, u103, u104, u105, u106, u107, u108, u109, u110, u111, u112, u113, u114, u115, u116, u117, u118, u119, u120, u121, u122, u123, u124, u125, u126, u127, u128, u129, u130, u131, u132, u133, u134, u135, u136, u137, u138, u139, u140, u141, u142, u143, u144, u145, u146, u147, u148, u149, u150, u151, u152, u153, u154, u155, u156, u157, u158, u159, u160, u161, u162, u163, u164, u165, u166, u167, u168, u169, u170, u171, u172, u173, u174, u175, u176, u177, u178, u179, u180, u181, u182, u183, u184, u185, u186, u187, c188, c189, c190, c191, c192, c193, c194, c195, c196, c197, c198, c199, c200, c201, c202, c203, c204, c205, c206, c207, c208, c209, c210, c211, c212, c213, c214, c215, c216, c217, c218, c219, c220, c221, c222, c223, c224, c225], []⟩ wx) :
    Code.wp Try.prog swB Q ⟨#[c0, c1, c2, c3, c4, .pointer (some ⟨g, 0, none⟩), c6, .pointer (some ⟨x, 0, none⟩), c8, v9, c10, c11, c12, v13, c14, c15, c16, c17, .pointer (some ⟨cb, 0, none⟩), .int .i64 0, .int .i64 0, c21, c22, c23, c24, c25, c26, c27, c28, c29, c30, c31, c32, c33, c34, c35, c36, c37, c38, c39, c40, c41, c42, c43, c44, c45, c46, c47, c48, c49, c50, c51, c52, c53, c54, c55, c56, c57, c58, c59, c60, c61, c62, c63, c64, c65, c66, c67, c68, c69, c70, c71, c72, c73, c74, c75, c76, c77, c78, c79, c80, c81, c82, c83, .int .i64 6, c85, c86, c87, c88, c89, c90, c91, c92, c93, c94, c95, c96, c97, c98, c99, c100, c101, c102, c103, c104, c105, c106, c107, c108, c109, c110, c111, c112, c113, c114, c115, c116, c117, c118, c119, c120, c121, c122, c123, c124, c125, c126, c127, c128, c129, c130, c131, c132, c133, c134, c135, c136, c137, c138, c139, c140, c141, c142, c143, c144, c145, c146, c147, c148, c149, c150, c151, c152, c153, c154, c155, c156, c157, c158, c159, c160, c161, c162, c163, c164, c165, c166, c167, c168, c169, c170, c171, c172, c173, c174, c175, c176, c177, c178, c179, c180, c181, c182, c183, c184, c185, c186, c187, c188, c189, c190, c191, c192, c193, c194, c195, c196, c197, c198, c199, c200, c201, c202, c203, c204, c205, c206, c207, c208, c209, c210, c211, c212, c213, c214, c215, c216, c217, c218, c219, c220, c221, c222, c223, c224, c225], []⟩ w1 := by
  conv => arg 2; whnf
  have hcg' := (hMc g P.Mg).symm
  have hcx' := (hMc x P.Mx).symm
  have Pd := P.no (Ext.drew no w1)
  go_wp2_with fail
  refine (within_any r.kind 9 w1 (by omega) (by omega) hrk).mono ?_
  rintro e w4 ⟨rfl, rfl⟩
  rw [← HQ.out]
  go_wp2_with fail
  refine (crash_any w1 g s M P.D P.lt P.ok r.n hrn).mono ?_
  rintro e w4 ⟨rfl, hD4, hx4⟩
  have e4 := hx4.keeps b1 (fun h => hcg' h)
  obtain ⟨hR4, lt4, x4⟩ := P.mid hx4
  go_wp2_with fail
  refine (refcrash_any w4 x s M hR4 P.ok r.n hrn).mono ?_
  rintro e w5 ⟨rfl, hR5, hx5⟩
  have P5 := P.both hx4 hD4 hx5 hR5 (DS.ok_crash P.ok r.n)
  clear e4 hD4 hR4 hR5 hx4 hx5
  have hokO := DS.ok_opens P5.ok (show (s.crash r.n).done ≤ 999990 from show s.done ≤ _ by omega)
  go_wp2_with fail
  refine (open_any w5 g _ M P5.D P5.lt P5.ok).mono ?_
  rintro e w6 ⟨J, ja, jc, la, lc, rfl, ⟨hs1, hf1⟩, hl1, hx6, e1⟩
  obtain ⟨R6, lt6, x6⟩ := P5.midO hx6 e1
  have E1 := Lib.hid e1
  clear e1
  have hs1x := hx6.size
  go_wp2_with fail
  refine (refopen_any w6 x _ _ R6 lt6 P5.ok).mono ?_
  rintro e w7 ⟨J', jb, jd, lb, ld, rfl, ⟨hs2, _⟩, hl2, hx7, e2⟩
  obtain ⟨M', P7, _, _⟩ := P5.opened hx6 E1.out hx7 e2 hokO.1 (B' := 2097153 + k) (by have := hokO.2.2; omega)
  have hxl := P5.lt x P5.Mx
  have hl1' := hl1.ext hx7 (fun i h => by simp only [Esc.just] at h; omega)
  have hs1' := hs1.ext hx7 (fun ad ha h => by have := hf1 ad ha; simp only [Esc.just] at h; omega)
  have hdO := hokO.2.1
  have hLO := hokO.2.2
  have hdd : (s.crash r.n).done ≤ 2 * k := show s.done ≤ _ by omega
  obtain ⟨so, ko, po, Lo, ho⟩ : ∃ so ko po Lo, (s.crash r.n).opens = (so, ko, po, Lo) := ⟨_, _, _, _, rfl⟩
  rw [ho] at hs1' hs2 hl1' hl2 P7 hdO hLO ⊢
  simp only at hs1' hs2 hl1' hl2 P7 hdO hLO ⊢
  clear hs1 hf1 hl1 E1 e2 hx6 hx7 R6 lt6 x6 hokO hs1x
  have cx : (convert 22 9 (.slice ja po.length jc)).run Try.prog w7 = .ok (.string (str po)) w7 := convStr _ _ _ _ _ rfl hs1'
  have cy : (convert 22 9 (.slice jb po.length jd)).run Try.prog w7 = .ok (.string (str po)) w7 := convStr _ _ _ _ _ rfl hs2
  have hbe := beqStrT (rfl : po = po)
  clear hs1' hs2
  have hPJ := P7.J
  go_upto_region 36 with fail
  rcases hPJ with ⟨rfl, rfl⟩ | ⟨j2, y2, n2', rfl, rfl, _⟩
  · go_wp2_with fail
    refine (rows_q w7 la lb lc ld Lo.length Lo.length Lo Lo rfl rfl hl1'.lists hl2.lists (by omega) (by omega)).mono ?_
    rintro e w8 ⟨rfl, n8, rfl⟩
    rw [decide_eq_true rfl]
    have P8 := P7.no (Ext.drewN no w7 n8)
    clear cx cy hbe
    go_wp2_with fail
    exact hQ (so) (0) (M') _ _ _ _ _ _ _ _ _ _ _ _ _ _ _ _ _ _ _ _ _ _ _ _ _ _ _ _ _ _ _ _ _ _ _ _ _ _ _ _ _ _ _ _ _ _ _ _ _ _ _ _ _ _ _ _ _ _ _ _ _ _ _ _ _ _ _ _ _ _ _ _ _ _ _ _ _ _ _ _ _ _ _ _ _ _ _ _ _ _ _ _ _ _ _ _ _ _ _ _ _ _ _ _ _ _ _ _ _ _ _ _ _ _ (by omega) (P8)
  · go_wp2_with fail
    refine (rows_q w7 la lb lc ld Lo.length Lo.length Lo Lo rfl rfl hl1'.lists hl2.lists (by omega) (by omega)).mono ?_
    rintro e w8 ⟨rfl, n8, rfl⟩
    rw [decide_eq_true rfl]
    have P8 := P7.no (Ext.drewN no w7 n8)
    clear cx cy hbe
    go_wp2_with fail
    exact hQ (so) (0) (M') _ _ _ _ _ _ _ _ _ _ _ _ _ _ _ _ _ _ _ _ _ _ _ _ _ _ _ _ _ _ _ _ _ _ _ _ _ _ _ _ _ _ _ _ _ _ _ _ _ _ _ _ _ _ _ _ _ _ _ _ _ _ _ _ _ _ _ _ _ _ _ _ _ _ _ _ _ _ _ _ _ _ _ _ _ _ _ _ _ _ _ _ _ _ _ _ _ _ _ _ _ _ _ _ _ _ _ _ _ _ _ _ _ _ (by omega) (P8)
set_option maxRecDepth 1000000 in
set_option maxHeartbeats 8000000 in
theorem act7 (w w1 : World) (g x cb k : Nat) (s : DS) (M : Nat → Prop) (v9 v13 : Value) (r : CallR) (P : Pr w w1 g x s M v9 v13 (2097152 + k)) (hdn : s.done ≤ 2 * k) (hk2 : k < 80) (hMc : ∀ i, M i → i ≠ cb) (b0 : w1.cell? ⟨cb, 0, none⟩ = some (.int .i64 r.kind)) (b1 : w1.cell? ⟨cb, 1, none⟩ = some (.int .i64 r.n)) (b2 : w1.cell? ⟨cb, 2, none⟩ = some (.slice r.a r.b.length r.c))
    (hrk : I64ok r.kind) (hrn : I64ok r.n) (hrd : Rd w r.a (bs r.b)) (hbig : ¬ 200 < r.b.length) (HQ : Hid (7 = r.kind % 9)) (Q : Exit → Act → World → Prop) (c0 c1 c2 c3 c4 c6 c8 c10 c11 c12 c14 c15 c16 c17 c21 c22 c23 c24 c25 c26 c27 c28 c29 c30 c31 c32 c33 c34 c35 c36 c37 c38 c39 c40 c41 c42 c43 c44 c45 c46 c47 c48 c49 c50 c51 c52 c53 c54 c55 c56 c57 c58 c59 c60 c61 c62 c63 c64 c65 c66 c67 c68 c69 c70 c71 c72 c73 c74 c75 c76 c77 c78 c79 c80 c81 c82 c83 c85 c86 c87 c88 c89 c90 c91 c92 c93 c94 c95 c96 c97 c98 c99 c100 c101 c102 c103 c104 c105 c106 c107 c108 c109 c110 c111 c112 c113 c114 c115 c116 c117 c118 c119 c120 c121 c122 c123 c124 c125 c126 c127 c128 c129 c130 c131 c132 c133 c134 c135 c136 c137 c138 c139 c140 c141 c142 c143 c144 c145 c146 c147 c148 c149 c150 c151 c152 c153 c154 c155 c156 c157 c158 c159 c160 c161 c162 c163 c164 c165 c166 c167 c168 c169 c170 c171 c172 c173 c174 c175 c176 c177 c178 c179 c180 c181 c182 c183 c184 c185 c186 c187 c188 c189 c190 c191 c192 c193 c194 c195 c196 c197 c198 c199 c200 c201 c202 c203 c204 c205 c206 c207 c208 c209 c210 c211 c212 c213 c214 c215 c216 c217 c218 c219 c220 c221 c222 c223 c224 c225 : Value)
    (hQ : ∀ (S : DS) (e : Nat) (M' : Nat → Prop) (v u : Value) (wx : World) (u21 u22 u23 u24 u25 u26 u27 u28 u85 u86 u87 u88 u89 u90 u91 u92 u93 u94 u95 u96 u97 u98 u99 u100 u101 u102 u103 u104 u105 u106 u107 u108 u109 u110 u111 u112 u113 u114 u115 u116 u117 u118 u119 u120 u121 u122 u123 u124 u125 u126 u127 u128 u129 u130 u131 u132 u133 u134 u135 u136 u137 u138 u139 u140 u141 u142 u143 u144 u145 u146 u147 u148 u149 u150 u151 u152 u153 u154 u155 u156 u157 u158 u159 u160 u161 u162 u163 u164 u165 u166 u167 u168 u169 u170 u171 u172 u173 u174 u175 u176 u177 u178 u179 u180 u181 u182 u183 u184 u185 u186 u187 : Value), S.done ≤ 2 * k + 2 → Pr w wx g x S M' v u (2097153 + k) → Q .normal ⟨#[c0, c1, c2, c3, c4, .pointer (some ⟨g, 0, none⟩), c6, .pointer (some ⟨x, 0, none⟩), c8, v, c10, c11, c12, u, c14, c15, c16, c17, .pointer (some ⟨cb, 0, none⟩), .int .i64 e, .int .i64 e, u21, u22, u23, u24, u25, u26, u27, u28, c29, c30, c31, c32, c33, c34, c35, c36, c37, c38, c39, c40, c41, c42, c43, c44, c45, c46, c47, c48, c49, c50, c51, c52, c53, c54, c55, c56, c57, c58, c59, c60, c61, c62, c63, c64, c65, c66, c67, c68, c69, c70, c71, c72, c73, c74, c75, c76, c77, c78, c79, c80, c81, c82, c83, .int .i64 7, u85, u86, u87, u88, u89, u90, u91, u92, u93, u94, u95, u96, u97, u98, u99, u100, u101, u102, u103, u104, u105, u106, u107, u108, u109, u110, u111, u112, u113, u114, u115, u116, u117, u118, u119, u120, u121, u122, u123, u124, u125, u126, u127, u128, u129, u130, u131, u132, u133, u134, u135, u136, u137, u138, u139, u140, u141, u142, u143, u144, u145, u146, u147, u148, u149, u150, u151, u152, u153, u154, u155, u156, u157, u158, u159, u160, u161, u162, u163, u164, u165, u166, u167, u168, u169, u170, u171, u172, u173, u174, u175, u176, u177, u178, u179, u180, u181, u182, u183, u184, u185, u186, u187, c188, c189, c190, c191, c192, c193, c194, c195, c196, c197, c198, c199, c200, c201, c202, c203, c204, c205, c206, c207, c208, c209, c210, c211, c212, c213, c214, c215, c216, c217, c218, c219, c220, c221, c222, c223, c224, c225], []⟩ wx) :
    Code.wp Try.prog swB Q ⟨#[c0, c1, c2, c3, c4, .pointer (some ⟨g, 0, none⟩), c6, .pointer (some ⟨x, 0, none⟩), c8, v9, c10, c11, c12, v13, c14, c15, c16, c17, .pointer (some ⟨cb, 0, none⟩), .int .i64 0, .int .i64 0, c21, c22, c23, c24, c25, c26, c27, c28, c29, c30, c31, c32, c33, c34, c35, c36, c37, c38, c39, c40, c41, c42, c43, c44, c45, c46, c47, c48, c49, c50, c51, c52, c53, c54, c55, c56, c57, c58, c59, c60, c61, c62, c63, c64, c65, c66, c67, c68, c69, c70, c71, c72, c73, c74, c75, c76, c77, c78, c79, c80, c81, c82, c83, .int .i64 7, c85, c86, c87, c88, c89, c90, c91, c92, c93, c94, c95, c96, c97, c98, c99, c100, c101, c102, c103, c104, c105, c106, c107, c108, c109, c110, c111, c112, c113, c114, c115, c116, c117, c118, c119, c120, c121, c122, c123, c124, c125, c126, c127, c128, c129, c130, c131, c132, c133, c134, c135, c136, c137, c138, c139, c140, c141, c142, c143, c144, c145, c146, c147, c148, c149, c150, c151, c152, c153, c154, c155, c156, c157, c158, c159, c160, c161, c162, c163, c164, c165, c166, c167, c168, c169, c170, c171, c172, c173, c174, c175, c176, c177, c178, c179, c180, c181, c182, c183, c184, c185, c186, c187, c188, c189, c190, c191, c192, c193, c194, c195, c196, c197, c198, c199, c200, c201, c202, c203, c204, c205, c206, c207, c208, c209, c210, c211, c212, c213, c214, c215, c216, c217, c218, c219, c220, c221, c222, c223, c224, c225], []⟩ w1 := by
  conv => arg 2; whnf
  have hcg' := (hMc g P.Mg).symm
  have hcx' := (hMc x P.Mx).symm
  have Pd := P.no (Ext.drew no w1)
  go_wp2_with fail
  refine (within_any r.kind 9 w1 (by omega) (by omega) hrk).mono ?_
  rintro e w4 ⟨rfl, rfl⟩
  rw [← HQ.out]
  have hokO := DS.ok_opens P.ok (show s.done ≤ 999990 from by omega)
  go_wp2_with fail
  refine (open_any w1 g _ M P.D P.lt P.ok).mono ?_
  rintro e w6 ⟨J, ja, jc, la, lc, rfl, ⟨hs1, hf1⟩, hl1, hx6, e1⟩
  obtain ⟨R6, lt6, x6⟩ := P.midO hx6 e1
  have E1 := Lib.hid e1
  clear e1
  have hs1x := hx6.size
  go_wp2_with fail
  refine (refopen_any w6 x _ _ R6 lt6 P.ok).mono ?_
  rintro e w7 ⟨J', jb, jd, lb, ld, rfl, ⟨hs2, _⟩, hl2, hx7, e2⟩
  obtain ⟨M', P7, _, _⟩ := P.opened hx6 E1.out hx7 e2 hokO.1 (B' := 2097153 + k) (by have := hokO.2.2; omega)
  have hxl := P.lt x P.Mx
  have hl1' := hl1.ext hx7 (fun i h => by simp only [Esc.just] at h; omega)
  have hs1' := hs1.ext hx7 (fun ad ha h => by have := hf1 ad ha; simp only [Esc.just] at h; omega)
  have hdO := hokO.2.1
  have hLO := hokO.2.2
  have hdd : s.done ≤ 2 * k := hdn
  obtain ⟨so, ko, po, Lo, ho⟩ : ∃ so ko po Lo, s.opens = (so, ko, po, Lo) := ⟨_, _, _, _, rfl⟩
  rw [ho] at hs1' hs2 hl1' hl2 P7 hdO hLO ⊢
  simp only at hs1' hs2 hl1' hl2 P7 hdO hLO ⊢
  clear hs1 hf1 hl1 E1 e2 hx6 hx7 R6 lt6 x6 hokO hs1x
  have cx : (convert 22 9 (.slice ja po.length jc)).run Try.prog w7 = .ok (.string (str po)) w7 := convStr _ _ _ _ _ rfl hs1'
  have cy : (convert 22 9 (.slice jb po.length jd)).run Try.prog w7 = .ok (.string (str po)) w7 := convStr _ _ _ _ _ rfl hs2
  have hbe := beqStrT (rfl : po = po)
  clear hs1' hs2
  have hPJ := P7.J
  go_upto_region 36 with fail
  rcases hPJ with ⟨rfl, rfl⟩ | ⟨j2, y2, n2', rfl, rfl, _⟩
  · go_wp2_with fail
    refine (rows_q w7 la lb lc ld Lo.length Lo.length Lo Lo rfl rfl hl1'.lists hl2.lists (by omega) (by omega)).mono ?_
    rintro e w8 ⟨rfl, n8, rfl⟩
    rw [decide_eq_true rfl]
    have P8 := P7.no (Ext.drewN no w7 n8)
    clear cx cy hbe
    go_wp2_with fail
    exact hQ (so) (0) (M') _ _ _ _ _ _ _ _ _ _ _ _ _ _ _ _ _ _ _ _ _ _ _ _ _ _ _ _ _ _ _ _ _ _ _ _ _ _ _ _ _ _ _ _ _ _ _ _ _ _ _ _ _ _ _ _ _ _ _ _ _ _ _ _ _ _ _ _ _ _ _ _ _ _ _ _ _ _ _ _ _ _ _ _ _ _ _ _ _ _ _ _ _ _ _ _ _ _ _ _ _ _ _ _ _ _ _ _ _ _ _ _ _ _ (by omega) (P8)
  · go_wp2_with fail
    refine (rows_q w7 la lb lc ld Lo.length Lo.length Lo Lo rfl rfl hl1'.lists hl2.lists (by omega) (by omega)).mono ?_
    rintro e w8 ⟨rfl, n8, rfl⟩
    rw [decide_eq_true rfl]
    have P8 := P7.no (Ext.drewN no w7 n8)
    clear cx cy hbe
    go_wp2_with fail
    exact hQ (so) (0) (M') _ _ _ _ _ _ _ _ _ _ _ _ _ _ _ _ _ _ _ _ _ _ _ _ _ _ _ _ _ _ _ _ _ _ _ _ _ _ _ _ _ _ _ _ _ _ _ _ _ _ _ _ _ _ _ _ _ _ _ _ _ _ _ _ _ _ _ _ _ _ _ _ _ _ _ _ _ _ _ _ _ _ _ _ _ _ _ _ _ _ _ _ _ _ _ _ _ _ _ _ _ _ _ _ _ _ _ _ _ _ _ _ _ _ (by omega) (P8)
end Go.Proofs.Ytbmkmbankflbpaa
