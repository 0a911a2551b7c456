/- The walk of the law JournalPlays: some of its acts. -/
import Derived.Test.YtbmkmbankflbpaaJoQ
import Derived.Test.YtbmkmbankflbpaaRegionF
import Derived.Deep.CutBlock
namespace Go.Proofs.Ytbmkmbankflbpaa
open Go.RowKit Go.Esc
set_option linter.unusedVariables false
set_option linter.unusedSimpArgs false

set_option maxRecDepth 1000000 in
set_option maxHeartbeats 8000000 in
theorem act0 (w w1 : World) (g x cb k : Nat) (s : DS) (M : Nat → Prop) (v9 v13 : Value) (r : CallR) (P : Pr w w1 g x s M v9 v13 (2097152 + k)) (hdn : s.done ≤ 2 * k) (hk2 : k < 80) (hMc : ∀ i, M i → i ≠ cb) (b0 : w1.cell? ⟨cb, 0, none⟩ = some (.int .i64 r.kind)) (b1 : w1.cell? ⟨cb, 1, none⟩ = some (.int .i64 r.n)) (b2 : w1.cell? ⟨cb, 2, none⟩ = some (.slice r.a r.b.length r.c))
    (hrk : I64ok r.kind) (hrn : I64ok r.n) (hrd : Rd w r.a (bs r.b)) (hbig : ¬ 200 < r.b.length) (HQ : Hid (0 = r.kind % 9)) (Q : Exit → Act → World → Prop) (c0 c1 c2 c3 c4 c6 c8 c10 c11 c12 c14 c15 c16 c17 c21 c22 c23 c24 c25 c26 c27 c28 c29 c30 c31 c32 c33 c34 c35 c36 c37 c38 c39 c40 c41 c42 c43 c44 c45 c46 c47 c48 c49 c50 c51 c52 c53 c54 c55 c56 c57 c58 c59 c60 c61 c62 c63 c64 c65 c66 c67 c68 c69 c70 c71 c72 c73 c74 c75 c76 c77 c78 c79 c80 c81 c82 c83 c85 c86 c87 c88 c89 c90 c91 c92 c93 c94 c95 c96 c97 c98 c99 c100 c101 c102 c103 c104 c105 c106 c107 c108 c109 c110 c111 c112 c113 c114 c115 c116 c117 c118 c119 c120 c121 c122 c123 c124 c125 c126 c127 c128 c129 c130 c131 c132 c133 c134 c135 c136 c137 c138 c139 c140 c141 c142 c143 c144 c145 c146 c147 c148 c149 c150 c151 c152 c153 c154 c155 c156 c157 c158 c159 c160 c161 c162 c163 c164 c165 c166 c167 c168 c169 c170 c171 c172 c173 c174 c175 c176 c177 c178 c179 c180 c181 c182 c183 c184 c185 c186 c187 c188 c189 c190 c191 c192 c193 c194 c195 c196 c197 c198 c199 c200 c201 c202 c203 c204 c205 c206 c207 c208 c209 c210 c211 c212 c213 c214 c215 c216 c217 c218 c219 c220 c221 c222 c223 c224 c225 : Value)
    (hQ : ∀ (S : DS) (e : Nat) (M' : Nat → Prop) (v u : Value) (wx : World) (u21 u22 u23 u24 u25 u26 u27 u28 u85 u86 u87 u88 u89 u90 u91 u92 u93 u94 u95 u96 u97 u98 u99 u100 u101 u102 u103 u104 u105 u106 u107 u108 u109 u110 u111 u112 u113 u114 u115 u116 u117 u118 u119 u120 u121 u122 u123 u124 u125 u126 u127 u128 u129 u130 u131 u132 u133 u134 u135 u136 u137 u138 u139 u140 u141 u142 u143 u144 u145 u146 u147 u148 u149 u150 u151 u152 u153 u154 u155 u156 u157 u158 u159 u160 u161 u162 u163 u164 u165 u166 u167 u168 u169 u170 u171 u172 u173 u174 u175 u176 u177 u178 u179 u180 u181 u182 u183 u184 u185 u186 u187 : Value), S.done ≤ 2 * k + 2 → Pr w wx g x S M' v u (2097153 + k) → Q .normal ⟨#[c0, c1, c2, c3, c4, .pointer (some ⟨g, 0, none⟩), c6, .pointer (some ⟨x, 0, none⟩), c8, v, c10, c11, c12, u, c14, c15, c16, c17, .pointer (some ⟨cb, 0, none⟩), .int .i64 e, .int .i64 e, u21, u22, u23, u24, u25, u26, u27, u28, c29, c30, c31, c32, c33, c34, c35, c36, c37, c38, c39, c40, c41, c42, c43, c44, c45, c46, c47, c48, c49, c50, c51, c52, c53, c54, c55, c56, c57, c58, c59, c60, c61, c62, c63, c64, c65, c66, c67, c68, c69, c70, c71, c72, c73, c74, c75, c76, c77, c78, c79, c80, c81, c82, c83, .int .i64 0, u85, u86, u87, u88, u89, u90, u91, u92, u93, u94, u95, u96, u97, u98, u99, u100, u101, u102, u103, u104, u105, u106, u107, u108, u109, u110, u111, u112, u113, u114, u115, u116, u117, u118, u119, u120, u121, u122, u123, u124, u125, u126, u127, u128, u129, u130, u131, u132, u133, u134, u135, u136, u137, u138, u139, u140, u141, u142, u143, u144, u145, u146, u147, u148, u149, u150, u151, u152, u153, u154, u155, u156, u157, u158, u159, u160, u161, u162, u163, u164, u165, u166, u167, u168, u169, u170, u171, u172, u173, u174, u175, u176, u177, u178, u179, u180, u181, u182, u183, u184, u185, u186, u187, c188, c189, c190, c191, c192, c193, c194, c195, c196, c197, c198, c199, c200, c201, c202, c203, c204, c205, c206, c207, c208, c209, c210, c211, c212, c213, c214, c215, c216, c217, c218, c219, c220, c221, c222, c223, c224, c225], []⟩ wx) :
    Code.wp Try.prog swB Q ⟨#[c0, c1, c2, c3, c4, .pointer (some ⟨g, 0, none⟩), c6, .pointer (some ⟨x, 0, none⟩), c8, v9, c10, c11, c12, v13, c14, c15, c16, c17, .pointer (some ⟨cb, 0, none⟩), .int .i64 0, .int .i64 0, c21, c22, c23, c24, c25, c26, c27, c28, c29, c30, c31, c32, c33, c34, c35, c36, c37, c38, c39, c40, c41, c42, c43, c44, c45, c46, c47, c48, c49, c50, c51, c52, c53, c54, c55, c56, c57, c58, c59, c60, c61, c62, c63, c64, c65, c66, c67, c68, c69, c70, c71, c72, c73, c74, c75, c76, c77, c78, c79, c80, c81, c82, c83, .int .i64 0, c85, c86, c87, c88, c89, c90, c91, c92, c93, c94, c95, c96, c97, c98, c99, c100, c101, c102, c103, c104, c105, c106, c107, c108, c109, c110, c111, c112, c113, c114, c115, c116, c117, c118, c119, c120, c121, c122, c123, c124, c125, c126, c127, c128, c129, c130, c131, c132, c133, c134, c135, c136, c137, c138, c139, c140, c141, c142, c143, c144, c145, c146, c147, c148, c149, c150, c151, c152, c153, c154, c155, c156, c157, c158, c159, c160, c161, c162, c163, c164, c165, c166, c167, c168, c169, c170, c171, c172, c173, c174, c175, c176, c177, c178, c179, c180, c181, c182, c183, c184, c185, c186, c187, c188, c189, c190, c191, c192, c193, c194, c195, c196, c197, c198, c199, c200, c201, c202, c203, c204, c205, c206, c207, c208, c209, c210, c211, c212, c213, c214, c215, c216, c217, c218, c219, c220, c221, c222, c223, c224, c225], []⟩ w1 := by
  conv => arg 2; whnf
  have hcg' := (hMc g P.Mg).symm
  have hcx' := (hMc x P.Mx).symm
  have Pd := P.no (Ext.drew no w1)
  rcases Pd.J with ⟨rfl, rfl⟩ | ⟨j, y, n, rfl, rfl, Jj, Jy, hMj, hMy, n1, n2, n3, n4, n5, hnB⟩
  · go_wp2_with fail
    exact hQ (s) (0) (M) _ _ _ _ _ _ _ _ _ _ _ _ _ _ _ _ _ _ _ _ _ _ _ _ _ _ _ _ _ _ _ _ _ _ _ _ _ _ _ _ _ _ _ _ _ _ _ _ _ _ _ _ _ _ _ _ _ _ _ _ _ _ _ _ _ _ _ _ _ _ _ _ _ _ _ _ _ _ _ _ _ _ _ _ _ _ _ _ _ _ _ _ _ _ _ _ _ _ _ _ _ _ _ _ _ _ _ _ _ _ _ _ _ _ (by omega) (P.mono (by omega))
  · go_upto_region 22 with fail
    refine wp_calm ?_
    refine wp_region_F [2, 6] (looks [(2, fun z => World.cell? z ⟨cb, 2, none⟩ = some (.slice r.a r.b.length r.c)), (6, fun z => World.cell? z ⟨cb, 2, none⟩ = some (.slice r.a r.b.length r.c))]) (by kernel_rfl) ?_
    have hT0 : ∀ k, looks [(2, fun z => World.cell? z ⟨cb, 2, none⟩ = some (.slice r.a r.b.length r.c)), (6, fun z => World.cell? z ⟨cb, 2, none⟩ = some (.slice r.a r.b.length r.c))] k (w1.drew) := looks_all ⟨b2, b2, trivial⟩
    refine wpF_take 0 (v := ?_) rfl (by kernel_rfl) (by kernel_rfl) (by kernel_rfl) (fun c _ _ h => absurd rfl (h.1 c)) hT0 (by rfl) ?_ ?_
    rotate_left
    · (intro wq; go_simp; try with_reducible rfl)
    simp only [Act.put, List.setIfInBounds_toArray, List.set_cons_zero, List.set_cons_succ]
    refine wpF_take 1 (v := ?_) rfl (by kernel_rfl) (by kernel_rfl) (by kernel_rfl) (fun c _ _ h => absurd rfl (h.1 c)) hT0 (by rfl) ?_ ?_
    rotate_left
    · (intro wq; go_simp; try with_reducible rfl)
    simp only [Act.put, List.setIfInBounds_toArray, List.set_cons_zero, List.set_cons_succ]
    refine wpF_look 2 (v := .slice r.a r.b.length r.c) rfl rfl (by kernel_rfl) (by kernel_rfl) (by kernel_rfl) (by kernel_rfl) (fun c _ _ h => absurd rfl (h.1 c)) hT0 (by rfl) (fun w hS => by have hS : World.cell? w ⟨cb, 2, none⟩ = some (.slice r.a r.b.length r.c) := hS; go_simp) ?_
    simp only [Act.put, List.setIfInBounds_toArray, List.set_cons_zero, List.set_cons_succ]
    refine wpF_take 4 (v := ?_) rfl (by kernel_rfl) (by kernel_rfl) (by kernel_rfl) (fun c _ _ h => absurd rfl (h.1 c)) hT0 (by rfl) ?_ ?_
    rotate_left
    · (intro wq; go_simp; try with_reducible rfl)
    simp only [Act.put, List.setIfInBounds_toArray, List.set_cons_zero, List.set_cons_succ]
    refine wpF_take 5 (v := ?_) rfl (by kernel_rfl) (by kernel_rfl) (by kernel_rfl) (fun c _ _ h => absurd rfl (h.1 c)) hT0 (by rfl) ?_ ?_
    rotate_left
    · (intro wq; go_simp; try with_reducible rfl)
    simp only [Act.put, List.setIfInBounds_toArray, List.set_cons_zero, List.set_cons_succ]
    refine wpF_look 6 (v := .slice r.a r.b.length r.c) rfl rfl (by kernel_rfl) (by kernel_rfl) (by kernel_rfl) (by kernel_rfl) (fun c _ _ h => absurd rfl (h.1 c)) hT0 (by rfl) (fun w hS => by have hS : World.cell? w ⟨cb, 2, none⟩ = some (.slice r.a r.b.length r.c) := hS; go_simp) ?_
    simp only [Act.put, List.setIfInBounds_toArray, List.set_cons_zero, List.set_cons_succ]
    refine wpF_exec 3 rfl (by kernel_rfl) (by rfl) ?_
    intro K hK
    go_simp
    refine (jadd_any w1.drew g j n s M Pd.D Jj n1 hMj Pd.lt Pd.ok (by omega) (by omega) r.a r.c r.b (hrd.ext Pd.x (fun _ _ h => h)) (by omega)).mono ?_
    rintro e w4 ⟨rfl, hD4, hJ4, hx4⟩
    obtain ⟨hR4, hy4, lt4, x4⟩ := Pd.midJ Jy hMj n2 n3 n5 hx4
    have e4 := hx4.keeps b2 (fun h => by rcases h with h | h; exact hcg' h; exact hMc j hMj h.symm)
    have hT1 : ∀ k, looks [(2, fun z => World.cell? z ⟨cb, 2, none⟩ = some (.slice r.a r.b.length r.c)), (6, fun z => World.cell? z ⟨cb, 2, none⟩ = some (.slice r.a r.b.length r.c))] k (w4) := looks_all ⟨e4, e4, trivial⟩
    refine hK _ _ (looks [(2, fun z => World.cell? z ⟨cb, 2, none⟩ = some (.slice r.a r.b.length r.c)), (6, fun z => World.cell? z ⟨cb, 2, none⟩ = some (.slice r.a r.b.length r.c))]) ⟨.inr (.inl (by kernel_rfl)), .inr (.inr (fun x h => h)), trivial⟩ hT1 ?_
    clear hK K
    try simp only [Act.put, List.setIfInBounds_toArray, List.set_cons_zero, List.set_cons_succ]
    refine wpF_exec 7 rfl (by kernel_rfl) (by rfl) ?_
    intro K hK
    go_simp
    refine (refjadd_any w4 x y n s M hR4 hy4 n4 hMy lt4 Pd.ok (by omega) (by omega) r.a r.c r.b (hrd.ext x4 (fun _ _ h => h)) (by omega)).mono ?_
    rintro e w5 ⟨rfl, hR5, hJ5, hx5⟩
    have P5 := Pd.bothJ Jy hMj hMy n1 n2 n3 n4 n5 hx4 hD4 hJ4 hx5 hR5 hJ5 (DS.ok_jadd Pd.ok (by omega) r.b).1 (B' := 2097153 + k) (by unfold tally; split <;> omega)
    have e5 := hx5.keeps e4 (fun h => by rcases h with h | h; exact hcx' h; exact hMc y hMy h.symm)
    have hT2 : ∀ k, looks [(2, fun z => World.cell? z ⟨cb, 2, none⟩ = some (.slice r.a r.b.length r.c)), (6, fun z => World.cell? z ⟨cb, 2, none⟩ = some (.slice r.a r.b.length r.c))] k (w5) := looks_all ⟨e5, e5, trivial⟩
    refine hK _ _ (looks [(2, fun z => World.cell? z ⟨cb, 2, none⟩ = some (.slice r.a r.b.length r.c)), (6, fun z => World.cell? z ⟨cb, 2, none⟩ = some (.slice r.a r.b.length r.c))]) ⟨.inr (.inl (by kernel_rfl)), .inr (.inl (by kernel_rfl)), trivial⟩ hT2 ?_
    clear hK K
    try simp only [Act.put, List.setIfInBounds_toArray, List.set_cons_zero, List.set_cons_succ]
    refine wpF_take 8 (v := ?_) rfl (by kernel_rfl) (by kernel_rfl) (by kernel_rfl) (fun c _ _ h => absurd rfl (h.1 c)) hT2 (by rfl) ?_ ?_
    rotate_left
    · (intro wq; go_simp; try with_reducible rfl)
    simp only [Act.put, List.setIfInBounds_toArray, List.set_cons_zero, List.set_cons_succ]
    refine wpF_take 9 (v := ?_) rfl (by kernel_rfl) (by kernel_rfl) (by kernel_rfl) (fun c _ _ h => absurd rfl (h.1 c)) hT2 (by rfl) ?_ ?_
    rotate_left
    · (intro wq; go_simp; try with_reducible rfl)
    simp only [Act.put, List.setIfInBounds_toArray, List.set_cons_zero, List.set_cons_succ]
    refine wpF_done (by kernel_rfl) ?_ _
    refine ⟨(fun _ h => by cases h), ?_⟩
    go_wp2_with fail
    exact hQ ((s.jadd r.b).1) ((s.jadd r.b).2) (M) _ _ _ _ _ _ _ _ _ _ _ _ _ _ _ _ _ _ _ _ _ _ _ _ _ _ _ _ _ _ _ _ _ _ _ _ _ _ _ _ _ _ _ _ _ _ _ _ _ _ _ _ _ _ _ _ _ _ _ _ _ _ _ _ _ _ _ _ _ _ _ _ _ _ _ _ _ _ _ _ _ _ _ _ _ _ _ _ _ _ _ _ _ _ _ _ _ _ _ _ _ _ _ _ _ _ _ _ _ _ _ _ _ _ (Nat.le_trans (DS.ok_jadd Pd.ok (by omega) r.b).2 (by omega)) (P5)
set_option maxRecDepth 1000000 in
set_option maxHeartbeats 8000000 in
theorem act1 (w w1 : World) (g x cb k : Nat) (s : DS) (M : Nat → Prop) (v9 v13 : Value) (r : CallR) (P : Pr w w1 g x s M v9 v13 (2097152 + k)) (hdn : s.done ≤ 2 * k) (hk2 : k < 80) (hMc : ∀ i, M i → i ≠ cb) (b0 : w1.cell? ⟨cb, 0, none⟩ = some (.int .i64 r.kind)) (b1 : w1.cell? ⟨cb, 1, none⟩ = some (.int .i64 r.n)) (b2 : w1.cell? ⟨cb, 2, none⟩ = some (.slice r.a r.b.length r.c))
    (hrk : I64ok r.kind) (hrn : I64ok r.n) (hrd : Rd w r.a (bs r.b)) (hbig : ¬ 200 < r.b.length) (HQ : Hid (1 = r.kind % 9)) (Q : Exit → Act → World → Prop) (c0 c1 c2 c3 c4 c6 c8 c10 c11 c12 c14 c15 c16 c17 c21 c22 c23 c24 c25 c26 c27 c28 c29 c30 c31 c32 c33 c34 c35 c36 c37 c38 c39 c40 c41 c42 c43 c44 c45 c46 c47 c48 c49 c50 c51 c52 c53 c54 c55 c56 c57 c58 c59 c60 c61 c62 c63 c64 c65 c66 c67 c68 c69 c70 c71 c72 c73 c74 c75 c76 c77 c78 c79 c80 c81 c82 c83 c85 c86 c87 c88 c89 c90 c91 c92 c93 c94 c95 c96 c97 c98 c99 c100 c101 c102 c103 c104 c105 c106 c107 c108 c109 c110 c111 c112 c113 c114 c115 c116 c117 c118 c119 c120 c121 c122 c123 c124 c125 c126 c127 c128 c129 c130 c131 c132 c133 c134 c135 c136 c137 c138 c139 c140 c141 c142 c143 c144 c145 c146 c147 c148 c149 c150 c151 c152 c153 c154 c155 c156 c157 c158 c159 c160 c161 c162 c163 c164 c165 c166 c167 c168 c169 c170 c171 c172 c173 c174 c175 c176 c177 c178 c179 c180 c181 c182 c183 c184 c185 c186 c187 c188 c189 c190 c191 c192 c193 c194 c195 c196 c197 c198 c199 c200 c201 c202 c203 c204 c205 c206 c207 c208 c209 c210 c211 c212 c213 c214 c215 c216 c217 c218 c219 c220 c221 c222 c223 c224 c225 : Value)
    (hQ : ∀ (S : DS) (e : Nat) (M' : Nat → Prop) (v u : Value) (wx : World) (u21 u22 u23 u24 u25 u26 u27 u28 u85 u86 u87 u88 u89 u90 u91 u92 u93 u94 u95 u96 u97 u98 u99 u100 u101 u102 u103 u104 u105 u106 u107 u108 u109 u110 u111 u112 u113 u114 u115 u116 u117 u118 u119 u120 u121 u122 u123 u124 u125 u126 u127 u128 u129 u130 u131 u132 u133 u134 u135 u136 u137 u138 u139 u140 u141 u142 u143 u144 u145 u146 u147 u148 u149 u150 u151 u152 u153 u154 u155 u156 u157 u158 u159 u160 u161 u162 u163 u164 u165 u166 u167 u168 u169 u170 u171 u172 u173 u174 u175 u176 u177 u178 u179 u180 u181 u182 u183 u184 u185 u186 u187 : Value), S.done ≤ 2 * k + 2 → Pr w wx g x S M' v u (2097153 + k) → Q .normal ⟨#[c0, c1, c2, c3, c4, .pointer (some ⟨g, 0, none⟩), c6, .pointer (some ⟨x, 0, none⟩), c8, v, c10, c11, c12, u, c14, c15, c16, c17, .pointer (some ⟨cb, 0, none⟩), .int .i64 e, .int .i64 e, u21, u22, u23, u24, u25, u26, u27, u28, c29, c30, c31, c32, c33, c34, c35, c36, c37, c38, c39, c40, c41, c42, c43, c44, c45, c46, c47, c48, c49, c50, c51, c52, c53, c54, c55, c56, c57, c58, c59, c60, c61, c62, c63, c64, c65, c66, c67, c68, c69, c70, c71, c72, c73, c74, c75, c76, c77, c78, c79, c80, c81, c82, c83, .int .i64 1, u85, u86, u87, u88, u89, u90, u91, u92, u93, u94, u95, u96, u97, u98, u99, u100, u101, u102, u103, u104, u105, u106, u107, u108, u109, u110, u111, u112, u113, u114, u115, u116, u117, u118, u119, u120, u121, u122, u123, u124, u125, u126, u127, u128, u129, u130, u131, u132, u133, u134, u135, u136, u137, u138, u139, u140, u141, u142, u143, u144, u145, u146, u147, u148, u149, u150, u151, u152, u153, u154, u155, u156, u157, u158, u159, u160, u161, u162, u163, u164, u165, u166, u167, u168, u169, u170, u171, u172, u173, u174, u175, u176, u177, u178, u179, u180, u181, u182, u183, u184, u185, u186, u187, c188, c189, c190, c191, c192, c193, c194, c195, c196, c197, c198, c199, c200, c201, c202, c203, c204, c205, c206, c207, c208, c209, c210, c211, c212, c213, c214, c215, c216, c217, c218, c219, c220, c221, c222, c223, c224, c225], []⟩ wx) :
    Code.wp Try.prog swB Q ⟨#[c0, c1, c2, c3, c4, .pointer (some ⟨g, 0, none⟩), c6, .pointer (some ⟨x, 0, none⟩), c8, v9, c10, c11, c12, v13, c14, c15, c16, c17, .pointer (some ⟨cb, 0, none⟩), .int .i64 0, .int .i64 0, c21, c22, c23, c24, c25, c26, c27, c28, c29, c30, c31, c32, c33, c34, c35, c36, c37, c38, c39, c40, c41, c42, c43, c44, c45, c46, c47, c48, c49, c50, c51, c52, c53, c54, c55, c56, c57, c58, c59, c60, c61, c62, c63, c64, c65, c66, c67, c68, c69, c70, c71, c72, c73, c74, c75, c76, c77, c78, c79, c80, c81, c82, c83, .int .i64 1, c85, c86, c87, c88, c89, c90, c91, c92, c93, c94, c95, c96, c97, c98, c99, c100, c101, c102, c103, c104, c105, c106, c107, c108, c109, c110, c111, c112, c113, c114, c115, c116, c117, c118, c119, c120, c121, c122, c123, c124, c125, c126, c127, c128, c129, c130, c131, c132, c133, c134, c135, c136, c137, c138, c139, c140, c141, c142, c143, c144, c145, c146, c147, c148, c149, c150, c151, c152, c153, c154, c155, c156, c157, c158, c159, c160, c161, c162, c163, c164, c165, c166, c167, c168, c169, c170, c171, c172, c173, c174, c175, c176, c177, c178, c179, c180, c181, c182, c183, c184, c185, c186, c187, c188, c189, c190, c191, c192, c193, c194, c195, c196, c197, c198, c199, c200, c201, c202, c203, c204, c205, c206, c207, c208, c209, c210, c211, c212, c213, c214, c215, c216, c217, c218, c219, c220, c221, c222, c223, c224, c225], []⟩ w1 := by
  conv => arg 2; whnf
  have hcg' := (hMc g P.Mg).symm
  have hcx' := (hMc x P.Mx).symm
  have Pd := P.no (Ext.drew no w1)
  rcases Pd.J with ⟨rfl, rfl⟩ | ⟨j, y, n, rfl, rfl, Jj, Jy, hMj, hMy, n1, n2, n3, n4, n5, hnB⟩
  · go_wp2_with fail
    exact hQ (s) (0) (M) _ _ _ _ _ _ _ _ _ _ _ _ _ _ _ _ _ _ _ _ _ _ _ _ _ _ _ _ _ _ _ _ _ _ _ _ _ _ _ _ _ _ _ _ _ _ _ _ _ _ _ _ _ _ _ _ _ _ _ _ _ _ _ _ _ _ _ _ _ _ _ _ _ _ _ _ _ _ _ _ _ _ _ _ _ _ _ _ _ _ _ _ _ _ _ _ _ _ _ _ _ _ _ _ _ _ _ _ _ _ _ _ _ _ (by omega) (P.mono (by omega))
  · go_upto_region 22 with fail
    refine wp_calm ?_
    refine wp_region_F [2, 6] (looks [(2, fun z => World.cell? z ⟨cb, 2, none⟩ = some (.slice r.a r.b.length r.c)), (6, fun z => World.cell? z ⟨cb, 2, none⟩ = some (.slice r.a r.b.length r.c))]) (by kernel_rfl) ?_
    have hT0 : ∀ k, looks [(2, fun z => World.cell? z ⟨cb, 2, none⟩ = some (.slice r.a r.b.length r.c)), (6, fun z => World.cell? z ⟨cb, 2, none⟩ = some (.slice r.a r.b.length r.c))] k (w1.drew) := looks_all ⟨b2, b2, trivial⟩
    refine wpF_take 0 (v := ?_) rfl (by kernel_rfl) (by kernel_rfl) (by kernel_rfl) (fun c _ _ h => absurd rfl (h.1 c)) hT0 (by rfl) ?_ ?_
    rotate_left
    · (intro wq; go_simp; try with_reducible rfl)
    simp only [Act.put, List.setIfInBounds_toArray, List.set_cons_zero, List.set_cons_succ]
    refine wpF_take 1 (v := ?_) rfl (by kernel_rfl) (by kernel_rfl) (by kernel_rfl) (fun c _ _ h => absurd rfl (h.1 c)) hT0 (by rfl) ?_ ?_
    rotate_left
    · (intro wq; go_simp; try with_reducible rfl)
    simp only [Act.put, List.setIfInBounds_toArray, List.set_cons_zero, List.set_cons_succ]
    refine wpF_look 2 (v := .slice r.a r.b.length r.c) rfl rfl (by kernel_rfl) (by kernel_rfl) (by kernel_rfl) (by kernel_rfl) (fun c _ _ h => absurd rfl (h.1 c)) hT0 (by rfl) (fun w hS => by have hS : World.cell? w ⟨cb, 2, none⟩ = some (.slice r.a r.b.length r.c) := hS; go_simp) ?_
    simp only [Act.put, List.setIfInBounds_toArray, List.set_cons_zero, List.set_cons_succ]
    refine wpF_take 4 (v := ?_) rfl (by kernel_rfl) (by kernel_rfl) (by kernel_rfl) (fun c _ _ h => absurd rfl (h.1 c)) hT0 (by rfl) ?_ ?_
    rotate_left
    · (intro wq; go_simp; try with_reducible rfl)
    simp only [Act.put, List.setIfInBounds_toArray, List.set_cons_zero, List.set_cons_succ]
    refine wpF_take 5 (v := ?_) rfl (by kernel_rfl) (by kernel_rfl) (by kernel_rfl) (fun c _ _ h => absurd rfl (h.1 c)) hT0 (by rfl) ?_ ?_
    rotate_left
    · (intro wq; go_simp; try with_reducible rfl)
    simp only [Act.put, List.setIfInBounds_toArray, List.set_cons_zero, List.set_cons_succ]
    refine wpF_look 6 (v := .slice r.a r.b.length r.c) rfl rfl (by kernel_rfl) (by kernel_rfl) (by kernel_rfl) (by kernel_rfl) (fun c _ _ h => absurd rfl (h.1 c)) hT0 (by rfl) (fun w hS => by have hS : World.cell? w ⟨cb, 2, none⟩ = some (.slice r.a r.b.length r.c) := hS; go_simp) ?_
    simp only [Act.put, List.setIfInBounds_toArray, List.set_cons_zero, List.set_cons_succ]
    refine wpF_exec 3 rfl (by kernel_rfl) (by rfl) ?_
    intro K hK
    go_simp
    refine (jadd_any w1.drew g j n s M Pd.D Jj n1 hMj Pd.lt Pd.ok (by omega) (by omega) r.a r.c r.b (hrd.ext Pd.x (fun _ _ h => h)) (by omega)).mono ?_
    rintro e w4 ⟨rfl, hD4, hJ4, hx4⟩
    obtain ⟨hR4, hy4, lt4, x4⟩ := Pd.midJ Jy hMj n2 n3 n5 hx4
    have e4 := hx4.keeps b2 (fun h => by rcases h with h | h; exact hcg' h; exact hMc j hMj h.symm)
    have hT1 : ∀ k, looks [(2, fun z => World.cell? z ⟨cb, 2, none⟩ = some (.slice r.a r.b.length r.c)), (6, fun z => World.cell? z ⟨cb, 2, none⟩ = some (.slice r.a r.b.length r.c))] k (w4) := looks_all ⟨e4, e4, trivial⟩
    refine hK _ _ (looks [(2, fun z => World.cell? z ⟨cb, 2, none⟩ = some (.slice r.a r.b.length r.c)), (6, fun z => World.cell? z ⟨cb, 2, none⟩ = some (.slice r.a r.b.length r.c))]) ⟨.inr (.inl (by kernel_rfl)), .inr (.inr (fun x h => h)), trivial⟩ hT1 ?_
    clear hK K
    try simp only [Act.put, List.setIfInBounds_toArray, List.set_cons_zero, List.set_cons_succ]
    refine wpF_exec 7 rfl (by kernel_rfl) (by rfl) ?_
    intro K hK
    go_simp
    refine (refjadd_any w4 x y n s M hR4 hy4 n4 hMy lt4 Pd.ok (by omega) (by omega) r.a r.c r.b (hrd.ext x4 (fun _ _ h => h)) (by omega)).mono ?_
    rintro e w5 ⟨rfl, hR5, hJ5, hx5⟩
    have P5 := Pd.bothJ Jy hMj hMy n1 n2 n3 n4 n5 hx4 hD4 hJ4 hx5 hR5 hJ5 (DS.ok_jadd Pd.ok (by omega) r.b).1 (B' := 2097153 + k) (by unfold tally; split <;> omega)
    have e5 := hx5.keeps e4 (fun h => by rcases h with h | h; exact hcx' h; exact hMc y hMy h.symm)
    have hT2 : ∀ k, looks [(2, fun z => World.cell? z ⟨cb, 2, none⟩ = some (.slice r.a r.b.length r.c)), (6, fun z => World.cell? z ⟨cb, 2, none⟩ = some (.slice r.a r.b.length r.c))] k (w5) := looks_all ⟨e5, e5, trivial⟩
    refine hK _ _ (looks [(2, fun z => World.cell? z ⟨cb, 2, none⟩ = some (.slice r.a r.b.length r.c)), (6, fun z => World.cell? z ⟨cb, 2, none⟩ = some (.slice r.a r.b.length r.c))]) ⟨.inr (.inl (by kernel_rfl)), .inr (.inl (by kernel_rfl)), trivial⟩ hT2 ?_
    clear hK K
    try simp only [Act.put, List.setIfInBounds_toArray, List.set_cons_zero, List.set_cons_succ]
    refine wpF_take 8 (v := ?_) rfl (by kernel_rfl) (by kernel_rfl) (by kernel_rfl) (fun c _ _ h => absurd rfl (h.1 c)) hT2 (by rfl) ?_ ?_
    rotate_left
    · (intro wq; go_simp; try with_reducible rfl)
    simp only [Act.put, List.setIfInBounds_toArray, List.set_cons_zero, List.set_cons_succ]
    refine wpF_take 9 (v := ?_) rfl (by kernel_rfl) (by kernel_rfl) (by kernel_rfl) (fun c _ _ h => absurd rfl (h.1 c)) hT2 (by rfl) ?_ ?_
    rotate_left
    · (intro wq; go_simp; try with_reducible rfl)
    simp only [Act.put, List.setIfInBounds_toArray, List.set_cons_zero, List.set_cons_succ]
    refine wpF_done (by kernel_rfl) ?_ _
    refine ⟨(fun _ h => by cases h), ?_⟩
    go_wp2_with fail
    exact hQ ((s.jadd r.b).1) ((s.jadd r.b).2) (M) _ _ _ _ _ _ _ _ _ _ _ _ _ _ _ _ _ _ _ _ _ _ _ _ _ _ _ _ _ _ _ _ _ _ _ _ _ _ _ _ _ _ _ _ _ _ _ _ _ _ _ _ _ _ _ _ _ _ _ _ _ _ _ _ _ _ _ _ _ _ _ _ _ _ _ _ _ _ _ _ _ _ _ _ _ _ _ _ _ _ _ _ _ _ _ _ _ _ _ _ _ _ _ _ _ _ _ _ _ _ _ _ _ _ (Nat.le_trans (DS.ok_jadd Pd.ok (by omega) r.b).2 (by omega)) (P5)
set_option maxRecDepth 1000000 in
set_option maxHeartbeats 8000000 in
theorem act2 (w w1 : World) (g x cb k : Nat) (s : DS) (M : Nat → Prop) (v9 v13 : Value) (r : CallR) (P : Pr w w1 g x s M v9 v13 (2097152 + k)) (hdn : s.done ≤ 2 * k) (hk2 : k < 80) (hMc : ∀ i, M i → i ≠ cb) (b0 : w1.cell? ⟨cb, 0, none⟩ = some (.int .i64 r.kind)) (b1 : w1.cell? ⟨cb, 1, none⟩ = some (.int .i64 r.n)) (b2 : w1.cell? ⟨cb, 2, none⟩ = some (.slice r.a r.b.length r.c))
    (hrk : I64ok r.kind) (hrn : I64ok r.n) (hrd : Rd w r.a (bs r.b)) (hbig : ¬ 200 < r.b.length) (HQ : Hid (2 = r.kind % 9)) (Q : Exit → Act → World → Prop) (c0 c1 c2 c3 c4 c6 c8 c10 c11 c12 c14 c15 c16 c17 c21 c22 c23 c24 c25 c26 c27 c28 c29 c30 c31 c32 c33 c34 c35 c36 c37 c38 c39 c40 c41 c42 c43 c44 c45 c46 c47 c48 c49 c50 c51 c52 c53 c54 c55 c56 c57 c58 c59 c60 c61 c62 c63 c64 c65 c66 c67 c68 c69 c70 c71 c72 c73 c74 c75 c76 c77 c78 c79 c80 c81 c82 c83 c85 c86 c87 c88 c89 c90 c91 c92 c93 c94 c95 c96 c97 c98 c99 c100 c101 c102 c103 c104 c105 c106 c107 c108 c109 c110 c111 c112 c113 c114 c115 c116 c117 c118 c119 c120 c121 c122 c123 c124 c125 c126 c127 c128 c129 c130 c131 c132 c133 c134 c135 c136 c137 c138 c139 c140 c141 c142 c143 c144 c145 c146 c147 c148 c149 c150 c151 c152 c153 c154 c155 c156 c157 c158 c159 c160 c161 c162 c163 c164 c165 c166 c167 c168 c169 c170 c171 c172 c173 c174 c175 c176 c177 c178 c179 c180 c181 c182 c183 c184 c185 c186 c187 c188 c189 c190 c191 c192 c193 c194 c195 c196 c197 c198 c199 c200 c201 c202 c203 c204 c205 c206 c207 c208 c209 c210 c211 c212 c213 c214 c215 c216 c217 c218 c219 c220 c221 c222 c223 c224 c225 : Value)
    (hQ : ∀ (S : DS) (e : Nat) (M' : Nat → Prop) (v u : Value) (wx : World) (u21 u22 u23 u24 u25 u26 u27 u28 u85 u86 u87 u88 u89 u90 u91 u92 u93 u94 u95 u96 u97 u98 u99 u100 u101 u102 u103 u104 u105 u106 u107 u108 u109 u110 u111 u112 u113 u114 u115 u116 u117 u118 u119 u120 u121 u122 u123 u124 u125 u126 u127 u128 u129 u130 u131 u132 u133 u134 u135 u136 u137 u138 u139 u140 u141 u142 u143 u144 u145 u146 u147 u148 u149 u150 u151 u152 u153 u154 u155 u156 u157 u158 u159 u160 u161 u162 u163 u164 u165 u166 u167 u168 u169 u170 u171 u172 u173 u174 u175 u176 u177 u178 u179 u180 u181 u182 u183 u184 u185 u186 u187 : Value), S.done ≤ 2 * k + 2 → Pr w wx g x S M' v u (2097153 + k) → Q .normal ⟨#[c0, c1, c2, c3, c4, .pointer (some ⟨g, 0, none⟩), c6, .pointer (some ⟨x, 0, none⟩), c8, v, c10, c11, c12, u, c14, c15, c16, c17, .pointer (some ⟨cb, 0, none⟩), .int .i64 e, .int .i64 e, u21, u22, u23, u24, u25, u26, u27, u28, c29, c30, c31, c32, c33, c34, c35, c36, c37, c38, c39, c40, c41, c42, c43, c44, c45, c46, c47, c48, c49, c50, c51, c52, c53, c54, c55, c56, c57, c58, c59, c60, c61, c62, c63, c64, c65, c66, c67, c68, c69, c70, c71, c72, c73, c74, c75, c76, c77, c78, c79, c80, c81, c82, c83, .int .i64 2, u85, u86, u87, u88, u89, u90, u91, u92, u93, u94, u95, u96, u97, u98, u99, u100, u101, u102, u103, u104, u105, u106, u107, u108, u109, u110, u111, u112, u113, u114, u115, u116, u117, u118, u119, u120, u121, u122, u123, u124, u125, u126, u127, u128, u129, u130, u131, u132, u133, u134, u135, u136, u137, u138, u139, u140, u141, u142, u143, u144, u145, u146, u147, u148, u149, u150, u151, u152, u153, u154, u155, u156, u157, u158, u159, u160, u161, u162, u163, u164, u165, u166, u167, u168, u169, u170, u171, u172, u173, u174, u175, u176, u177, u178, u179, u180, u181, u182, u183, u184, u185, u186, u187, c188, c189, c190, c191, c192, c193, c194, c195, c196, c197, c198, c199, c200, c201, c202, c203, c204, c205, c206, c207, c208, c209, c210, c211, c212, c213, c214, c215, c216, c217, c218, c219, c220, c221, c222, c223, c224, c225], []⟩ wx) :
    Code.wp Try.prog swB Q ⟨#[c0, c1, c2, c3, c4, .pointer (some ⟨g, 0, none⟩), c6, .pointer (some ⟨x, 0, none⟩), c8, v9, c10, c11, c12, v13, c14, c15, c16, c17, .pointer (some ⟨cb, 0, none⟩), .int .i64 0, .int .i64 0, c21, c22, c23, c24, c25, c26, c27, c28, c29, c30, c31, c32, c33, c34, c35, c36, c37, c38, c39, c40, c41, c42, c43, c44, c45, c46, c47, c48, c49, c50, c51, c52, c53, c54, c55, c56, c57, c58, c59, c60, c61, c62, c63, c64, c65, c66, c67, c68, c69, c70, c71, c72, c73, c74, c75, c76, c77, c78, c79, c80, c81, c82, c83, .int .i64 2, c85, c86, c87, c88, c89, c90, c91, c92, c93, c94, c95, c96, c97, c98, c99, c100, c101, c102, c103, c104, c105, c106, c107, c108, c109, c110, c111, c112, c113, c114, c115, c116, c117, c118, c119, c120, c121, c122, c123, c124, c125, c126, c127, c128, c129, c130, c131, c132, c133, c134, c135, c136, c137, c138, c139, c140, c141, c142, c143, c144, c145, c146, c147, c148, c149, c150, c151, c152, c153, c154, c155, c156, c157, c158, c159, c160, c161, c162, c163, c164, c165, c166, c167, c168, c169, c170, c171, c172, c173, c174, c175, c176, c177, c178, c179, c180, c181, c182, c183, c184, c185, c186, c187, c188, c189, c190, c191, c192, c193, c194, c195, c196, c197, c198, c199, c200, c201, c202, c203, c204, c205, c206, c207, c208, c209, c210, c211, c212, c213, c214, c215, c216, c217, c218, c219, c220, c221, c222, c223, c224, c225], []⟩ w1 := by
  conv => arg 2; whnf
  have hcg' := (hMc g P.Mg).symm
  have hcx' := (hMc x P.Mx).symm
  have Pd := P.no (Ext.drew no w1)
  rcases Pd.J with ⟨rfl, rfl⟩ | ⟨j, y, n, rfl, rfl, Jj, Jy, hMj, hMy, n1, n2, n3, n4, n5, hnB⟩
  · go_wp2_with fail
    exact hQ (s) (0) (M) _ _ _ _ _ _ _ _ _ _ _ _ _ _ _ _ _ _ _ _ _ _ _ _ _ _ _ _ _ _ _ _ _ _ _ _ _ _ _ _ _ _ _ _ _ _ _ _ _ _ _ _ _ _ _ _ _ _ _ _ _ _ _ _ _ _ _ _ _ _ _ _ _ _ _ _ _ _ _ _ _ _ _ _ _ _ _ _ _ _ _ _ _ _ _ _ _ _ _ _ _ _ _ _ _ _ _ _ _ _ _ _ _ _ (by omega) (P.mono (by omega))
  · go_upto_region 22 with fail
    refine wp_calm ?_
    refine wp_region_F [2, 6] (looks [(2, fun z => World.cell? z ⟨cb, 2, none⟩ = some (.slice r.a r.b.length r.c)), (6, fun z => World.cell? z ⟨cb, 2, none⟩ = some (.slice r.a r.b.length r.c))]) (by kernel_rfl) ?_
    have hT0 : ∀ k, looks [(2, fun z => World.cell? z ⟨cb, 2, none⟩ = some (.slice r.a r.b.length r.c)), (6, fun z => World.cell? z ⟨cb, 2, none⟩ = some (.slice r.a r.b.length r.c))] k (w1.drew) := looks_all ⟨b2, b2, trivial⟩
    refine wpF_take 0 (v := ?_) rfl (by kernel_rfl) (by kernel_rfl) (by kernel_rfl) (fun c _ _ h => absurd rfl (h.1 c)) hT0 (by rfl) ?_ ?_
    rotate_left
    · (intro wq; go_simp; try with_reducible rfl)
    simp only [Act.put, List.setIfInBounds_toArray, List.set_cons_zero, List.set_cons_succ]
    refine wpF_take 1 (v := ?_) rfl (by kernel_rfl) (by kernel_rfl) (by kernel_rfl) (fun c _ _ h => absurd rfl (h.1 c)) hT0 (by rfl) ?_ ?_
    rotate_left
    · (intro wq; go_simp; try with_reducible rfl)
    simp only [Act.put, List.setIfInBounds_toArray, List.set_cons_zero, List.set_cons_succ]
    refine wpF_look 2 (v := .slice r.a r.b.length r.c) rfl rfl (by kernel_rfl) (by kernel_rfl) (by kernel_rfl) (by kernel_rfl) (fun c _ _ h => absurd rfl (h.1 c)) hT0 (by rfl) (fun w hS => by have hS : World.cell? w ⟨cb, 2, none⟩ = some (.slice r.a r.b.length r.c) := hS; go_simp) ?_
    simp only [Act.put, List.setIfInBounds_toArray, List.set_cons_zero, List.set_cons_succ]
    refine wpF_take 4 (v := ?_) rfl (by kernel_rfl) (by kernel_rfl) (by kernel_rfl) (fun c _ _ h => absurd rfl (h.1 c)) hT0 (by rfl) ?_ ?_
    rotate_left
    · (intro wq; go_simp; try with_reducible rfl)
    simp only [Act.put, List.setIfInBounds_toArray, List.set_cons_zero, List.set_cons_succ]
    refine wpF_take 5 (v := ?_) rfl (by kernel_rfl) (by kernel_rfl) (by kernel_rfl) (fun c _ _ h => absurd rfl (h.1 c)) hT0 (by rfl) ?_ ?_
    rotate_left
    · (intro wq; go_simp; try with_reducible rfl)
    simp only [Act.put, List.setIfInBounds_toArray, List.set_cons_zero, List.set_cons_succ]
    refine wpF_look 6 (v := .slice r.a r.b.length r.c) rfl rfl (by kernel_rfl) (by kernel_rfl) (by kernel_rfl) (by kernel_rfl) (fun c _ _ h => absurd rfl (h.1 c)) hT0 (by rfl) (fun w hS => by have hS : World.cell? w ⟨cb, 2, none⟩ = some (.slice r.a r.b.length r.c) := hS; go_simp) ?_
    simp only [Act.put, List.setIfInBounds_toArray, List.set_cons_zero, List.set_cons_succ]
    refine wpF_exec 3 rfl (by kernel_rfl) (by rfl) ?_
    intro K hK
    go_simp
    refine (jadd_any w1.drew g j n s M Pd.D Jj n1 hMj Pd.lt Pd.ok (by omega) (by omega) r.a r.c r.b (hrd.ext Pd.x (fun _ _ h => h)) (by omega)).mono ?_
    rintro e w4 ⟨rfl, hD4, hJ4, hx4⟩
    obtain ⟨hR4, hy4, lt4, x4⟩ := Pd.midJ Jy hMj n2 n3 n5 hx4
    have e4 := hx4.keeps b2 (fun h => by rcases h with h | h; exact hcg' h; exact hMc j hMj h.symm)
    have hT1 : ∀ k, looks [(2, fun z => World.cell? z ⟨cb, 2, none⟩ = some (.slice r.a r.b.length r.c)), (6, fun z => World.cell? z ⟨cb, 2, none⟩ = some (.slice r.a r.b.length r.c))] k (w4) := looks_all ⟨e4, e4, trivial⟩
    refine hK _ _ (looks [(2, fun z => World.cell? z ⟨cb, 2, none⟩ = some (.slice r.a r.b.length r.c)), (6, fun z => World.cell? z ⟨cb, 2, none⟩ = some (.slice r.a r.b.length r.c))]) ⟨.inr (.inl (by kernel_rfl)), .inr (.inr (fun x h => h)), trivial⟩ hT1 ?_
    clear hK K
    try simp only [Act.put, List.setIfInBounds_toArray, List.set_cons_zero, List.set_cons_succ]
    refine wpF_exec 7 rfl (by kernel_rfl) (by rfl) ?_
    intro K hK
    go_simp
    refine (refjadd_any w4 x y n s M hR4 hy4 n4 hMy lt4 Pd.ok (by omega) (by omega) r.a r.c r.b (hrd.ext x4 (fun _ _ h => h)) (by omega)).mono ?_
    rintro e w5 ⟨rfl, hR5, hJ5, hx5⟩
    have P5 := Pd.bothJ Jy hMj hMy n1 n2 n3 n4 n5 hx4 hD4 hJ4 hx5 hR5 hJ5 (DS.ok_jadd Pd.ok (by omega) r.b).1 (B' := 2097153 + k) (by unfold tally; split <;> omega)
    have e5 := hx5.keeps e4 (fun h => by rcases h with h | h; exact hcx' h; exact hMc y hMy h.symm)
    have hT2 : ∀ k, looks [(2, fun z => World.cell? z ⟨cb, 2, none⟩ = some (.slice r.a r.b.length r.c)), (6, fun z => World.cell? z ⟨cb, 2, none⟩ = some (.slice r.a r.b.length r.c))] k (w5) := looks_all ⟨e5, e5, trivial⟩
    refine hK _ _ (looks [(2, fun z => World.cell? z ⟨cb, 2, none⟩ = some (.slice r.a r.b.length r.c)), (6, fun z => World.cell? z ⟨cb, 2, none⟩ = some (.slice r.a r.b.length r.c))]) ⟨.inr (.inl (by kernel_rfl)), .inr (.inl (by kernel_rfl)), trivial⟩ hT2 ?_
    clear hK K
    try simp only [Act.put, List.setIfInBounds_toArray, List.set_cons_zero, List.set_cons_succ]
    refine wpF_take 8 (v := ?_) rfl (by kernel_rfl) (by kernel_rfl) (by kernel_rfl) (fun c _ _ h => absurd rfl (h.1 c)) hT2 (by rfl) ?_ ?_
    rotate_left
    · (intro wq; go_simp; try with_reducible rfl)
    simp only [Act.put, List.setIfInBounds_toArray, List.set_cons_zero, List.set_cons_succ]
    refine wpF_take 9 (v := ?_) rfl (by kernel_rfl) (by kernel_rfl) (by kernel_rfl) (fun c _ _ h => absurd rfl (h.1 c)) hT2 (by rfl) ?_ ?_
    rotate_left
    · (intro wq; go_simp; try with_reducible rfl)
    simp only [Act.put, List.setIfInBounds_toArray, List.set_cons_zero, List.set_cons_succ]
    refine wpF_done (by kernel_rfl) ?_ _
    refine ⟨(fun _ h => by cases h), ?_⟩
    go_wp2_with fail
    exact hQ ((s.jadd r.b).1) ((s.jadd r.b).2) (M) _ _ _ _ _ _ _ _ _ _ _ _ _ _ _ _ _ _ _ _ _ _ _ _ _ _ _ _ _ _ _ _ _ _ _ _ _ _ _ _ _ _ _ _ _ _ _ _ _ _ _ _ _ _ _ _ _ _ _ _ _ _ _ _ _ _ _ _ _ _ _ _ _ _ _ _ _ _ _ _ _ _ _ _ _ _ _ _ _ _ _ _ _ _ _ _ _ _ _ _ _ _ _ _ _ _ _ _ _ _ _ _ _ _ (Nat.le_trans (DS.ok_jadd Pd.ok (by omega) r.b).2 (by omega)) (P5)
end Go.Proofs.Ytbmkmbankflbpaa
