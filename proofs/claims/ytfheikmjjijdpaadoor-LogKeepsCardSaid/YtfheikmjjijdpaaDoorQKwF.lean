/-
  LogKeeps: Force, the disk not armed; Trim of half of what is safe. Condition: the step's kind is 3, 4.
-/
import Derived.Test.YtfheikmjjijdpaaDoorQKmX
namespace Go.Proofs.YtfheikmjjijdpaaDoor
open Go.RowKit Go.Maps Go.Proofs
set_option linter.unusedVariables false
set_option linter.unusedSimpArgs false

set_option maxRecDepth 1000000 in
set_option maxHeartbeats 8000000 in
theorem kw_force {A0 : Option Addr} {n0 c0 : Nat} {A1 : Option Addr} {n1 c1 : Nat} {A2 : Option Addr} {n2 c2 d ms mo i : Nat} {rs : List (Rec × RecS)} {w wr : World} {Q : Exit → Act → World → Prop} {m : Nat} {r : Int} {c3 c4 c5 u6 u8 u9 c10 u11 u12 u15 u16 u17 u18 u19 u20 u21 u22 u23 u24 u25 u26 u27 c28 c29 c30 c31 c32 c33 c34 c35 c36 c37 c38 c39 c40 c41 c42 c43 c44 c45 c46 c47 c48 c49 c50 c51 u52 u53 u54 u55 u56 u57 u58 u59 u60 u61 u62 u63 u65 u66 u67 u68 u69 u70 u71 u72 u73 u74 u75 u76 u77 u78 u79 u80 u81 u82 u83 u84 u85 u86 u87 u88 u89 u90 u91 u92 u93 u94 u95 u96 u97 u98 u99 u100 u101 u102 u103 u104 u105 u106 u107 u108 u109 u110 u111 u112 u113 u114 u115 u116 u117 u118 u119 u120 u121 u122 u123 u124 u125 u126 u127 u128 u129 u130 u131 u132 u133 u134 u135 u136 u137 u138 u139 u140 u141 u142 u143 u144 u145 u146 u147 u148 u149 u150 u151 u152 u153 u154 u155 u156 u157 u158 u159 u160 u161 u162 u163 u164 u165 u166 u167 u168 u169 u170 u171 u172 u173 u174 u175 u176 u177 u178 u179 u180 u181 u182 u183 u184 u185 u186 u187 u188 u189 u190 u191 u192 u193 u194 u195 u196 u197 u198 u199 u200 u201 u202 u203 u204 u205 u206 u207 u208 u209 u210 u211 u212 u213 u214 u215 u216 u217 u218 u219 u220 u221 u222 u223 u224 u225 u226 u227 u228 u229 u230 u231 u232 u233 u234 u235 u236 u237 u238 u239 u240 u241 u242 u243 u244 u245 u246 u247 u248 u249 : Value} (hr3 : r = 3) (hi : i < 100) (hn1 : n1 ≤ 40) (hn2 : n2 ≤ 100) (hm : m < 4000) (hr : (m : Int).tmod 6 = r) (hst : KSt w d ms mo i u8 u9 u11 u12 wr) (hK : ∀ (v6 v8 v9 v11 v12 v14 v15 v16 v17 v18 v19 v20 v21 v22 v23 v24 v25 v26 v27 v52 v53 v54 v55 v56 v57 v58 v59 v60 v61 v62 v63 v64 v65 v66 v67 v68 v69 v70 v71 v72 v73 v74 v75 v76 v77 v78 v79 v80 v81 v82 v83 v84 v85 v86 v87 v88 v89 v90 v91 v92 v93 v94 v95 v96 v97 v98 v99 v100 v101 v102 v103 v104 v105 v106 v107 v108 v109 v110 v111 v112 v113 v114 v115 v116 v117 v118 v119 v120 v121 v122 v123 v124 v125 v126 v127 v128 v129 v130 v131 v132 v133 v134 v135 v136 v137 v138 v139 v140 v141 v142 v143 v144 v145 v146 v147 v148 v149 v150 v151 v152 v153 v154 v155 v156 v157 v158 v159 v160 v161 v162 v163 v164 v165 v166 v167 v168 v169 v170 v171 v172 v173 v174 v175 v176 v177 v178 v179 v180 v181 v182 v183 v184 v185 v186 v187 v188 v189 v190 v191 v192 v193 v194 v195 v196 v197 v198 v199 v200 v201 v202 v203 v204 v205 v206 v207 v208 v209 v210 v211 v212 v213 v214 v215 v216 v217 v218 v219 v220 v221 v222 v223 v224 v225 v226 v227 v228 v229 v230 v231 v232 v233 v234 v235 v236 v237 v238 v239 v240 v241 v242 v243 v244 v245 v246 v247 v248 v249 : Value) (wc : World), KSt w d ms mo (i + 1) v8 v9 v11 v12 wc → Q .normal ⟨#[.slice A0 n0 c0, .slice A1 n1 c1, .slice A2 n2 c2, c3, c4, c5, v6, .pointer (some ⟨d, 0, none⟩), v8, v9, c10, v11, v12, .int .i64 i, v14, v15, v16, v17, v18, v19, v20, v21, v22, v23, v24, v25, v26, v27, c28, c29, c30, c31, c32, c33, c34, c35, c36, c37, c38, c39, c40, c41, c42, c43, c44, c45, c46, c47, c48, c49, c50, c51, v52, v53, v54, v55, v56, v57, v58, v59, v60, v61, v62, v63, v64, v65, v66, v67, v68, v69, v70, v71, v72, v73, v74, v75, v76, v77, v78, v79, v80, v81, v82, v83, v84, v85, v86, v87, v88, v89, v90, v91, v92, v93, v94, v95, v96, v97, v98, v99, v100, v101, v102, v103, v104, v105, v106, v107, v108, v109, v110, v111, v112, v113, v114, v115, v116, v117, v118, v119, v120, v121, v122, v123, v124, v125, v126, v127, v128, v129, v130, v131, v132, v133, v134, v135, v136, v137, v138, v139, v140, v141, v142, v143, v144, v145, v146, v147, v148, v149, v150, v151, v152, v153, v154, v155, v156, v157, v158, v159, v160, v161, v162, v163, v164, v165, v166, v167, v168, v169, v170, v171, v172, v173, v174, v175, v176, v177, v178, v179, v180, v181, v182, v183, v184, v185, v186, v187, v188, v189, v190, v191, v192, v193, v194, v195, v196, v197, v198, v199, v200, v201, v202, v203, v204, v205, v206, v207, v208, v209, v210, v211, v212, v213, v214, v215, v216, v217, v218, v219, v220, v221, v222, v223, v224, v225, v226, v227, v228, v229, v230, v231, v232, v233, v234, v235, v236, v237, v238, v239, v240, v241, v242, v243, v244, v245, v246, v247, v248, v249], []⟩ wc) (hC : ∀ (v6 v8 v9 v11 v12 v14 v15 v16 v17 v18 v19 v20 v21 v22 v23 v24 v25 v26 v27 v52 v53 v54 v55 v56 v57 v58 v59 v60 v61 v62 v63 v64 v65 v66 v67 v68 v69 v70 v71 v72 v73 v74 v75 v76 v77 v78 v79 v80 v81 v82 v83 v84 v85 v86 v87 v88 v89 v90 v91 v92 v93 v94 v95 v96 v97 v98 v99 v100 v101 v102 v103 v104 v105 v106 v107 v108 v109 v110 v111 v112 v113 v114 v115 v116 v117 v118 v119 v120 v121 v122 v123 v124 v125 v126 v127 v128 v129 v130 v131 v132 v133 v134 v135 v136 v137 v138 v139 v140 v141 v142 v143 v144 v145 v146 v147 v148 v149 v150 v151 v152 v153 v154 v155 v156 v157 v158 v159 v160 v161 v162 v163 v164 v165 v166 v167 v168 v169 v170 v171 v172 v173 v174 v175 v176 v177 v178 v179 v180 v181 v182 v183 v184 v185 v186 v187 v188 v189 v190 v191 v192 v193 v194 v195 v196 v197 v198 v199 v200 v201 v202 v203 v204 v205 v206 v207 v208 v209 v210 v211 v212 v213 v214 v215 v216 v217 v218 v219 v220 v221 v222 v223 v224 v225 v226 v227 v228 v229 v230 v231 v232 v233 v234 v235 v236 v237 v238 v239 v240 v241 v242 v243 v244 v245 v246 v247 v248 v249 : Value) (wc : World), KSt w d ms mo (i + 1) v8 v9 v11 v12 wc → Q (.exit 1) ⟨#[.slice A0 n0 c0, .slice A1 n1 c1, .slice A2 n2 c2, c3, c4, c5, v6, .pointer (some ⟨d, 0, none⟩), v8, v9, c10, v11, v12, .int .i64 i, v14, v15, v16, v17, v18, v19, v20, v21, v22, v23, v24, v25, v26, v27, c28, c29, c30, c31, c32, c33, c34, c35, c36, c37, c38, c39, c40, c41, c42, c43, c44, c45, c46, c47, c48, c49, c50, c51, v52, v53, v54, v55, v56, v57, v58, v59, v60, v61, v62, v63, v64, v65, v66, v67, v68, v69, v70, v71, v72, v73, v74, v75, v76, v77, v78, v79, v80, v81, v82, v83, v84, v85, v86, v87, v88, v89, v90, v91, v92, v93, v94, v95, v96, v97, v98, v99, v100, v101, v102, v103, v104, v105, v106, v107, v108, v109, v110, v111, v112, v113, v114, v115, v116, v117, v118, v119, v120, v121, v122, v123, v124, v125, v126, v127, v128, v129, v130, v131, v132, v133, v134, v135, v136, v137, v138, v139, v140, v141, v142, v143, v144, v145, v146, v147, v148, v149, v150, v151, v152, v153, v154, v155, v156, v157, v158, v159, v160, v161, v162, v163, v164, v165, v166, v167, v168, v169, v170, v171, v172, v173, v174, v175, v176, v177, v178, v179, v180, v181, v182, v183, v184, v185, v186, v187, v188, v189, v190, v191, v192, v193, v194, v195, v196, v197, v198, v199, v200, v201, v202, v203, v204, v205, v206, v207, v208, v209, v210, v211, v212, v213, v214, v215, v216, v217, v218, v219, v220, v221, v222, v223, v224, v225, v226, v227, v228, v229, v230, v231, v232, v233, v234, v235, v236, v237, v238, v239, v240, v241, v242, v243, v244, v245, v246, v247, v248, v249], []⟩ wc) : Code.wp Tryd.prog kDo Q ⟨#[.slice A0 n0 c0, .slice A1 n1 c1, .slice A2 n2 c2, c3, c4, c5, u6, .pointer (some ⟨d, 0, none⟩), u8, u9, c10, u11, u12, .int .i64 i, .int .i64 m, u15, u16, u17, u18, u19, u20, u21, u22, u23, u24, u25, u26, u27, c28, c29, c30, c31, c32, c33, c34, c35, c36, c37, c38, c39, c40, c41, c42, c43, c44, c45, c46, c47, c48, c49, c50, c51, u52, u53, u54, u55, u56, u57, u58, u59, u60, u61, u62, u63, .int .i64 r, u65, u66, u67, u68, u69, u70, u71, u72, u73, u74, u75, u76, u77, u78, u79, u80, u81, u82, u83, u84, u85, u86, u87, u88, u89, u90, u91, u92, u93, u94, u95, u96, u97, u98, u99, u100, u101, u102, u103, u104, u105, u106, u107, u108, u109, u110, u111, u112, u113, u114, u115, u116, u117, u118, u119, u120, u121, u122, u123, u124, u125, u126, u127, u128, u129, u130, u131, u132, u133, u134, u135, u136, u137, u138, u139, u140, u141, u142, u143, u144, u145, u146, u147, u148, u149, u150, u151, u152, u153, u154, u155, u156, u157, u158, u159, u160, u161, u162, u163, u164, u165, u166, u167, u168, u169, u170, u171, u172, u173, u174, u175, u176, u177, u178, u179, u180, u181, u182, u183, u184, u185, u186, u187, u188, u189, u190, u191, u192, u193, u194, u195, u196, u197, u198, u199, u200, u201, u202, u203, u204, u205, u206, u207, u208, u209, u210, u211, u212, u213, u214, u215, u216, u217, u218, u219, u220, u221, u222, u223, u224, u225, u226, u227, u228, u229, u230, u231, u232, u233, u234, u235, u236, u237, u238, u239, u240, u241, u242, u243, u244, u245, u246, u247, u248, u249], []⟩ wr := by
  have HK := Lib.hid hK
  have HC := Lib.hid hC
  clear hK hC
  conv => arg 2; whnf
  have mixed : Tryd.prog.follows .mixedOrders = true := by kernel_rfl
  have HM := Lib.hid hm
  clear hm
  obtain ⟨q, hq, hq6⟩ : ∃ q : Nat, (m : Int).tdiv 6 = (q : Int) ∧ q ≤ 666 := ⟨m / 6, by rw [Int.tdiv_eq_ediv_of_nonneg (by omega)]; have := HM.out; omega, by have := HM.out; omega⟩
  obtain ⟨T, X, A, c, rows, safe, D, E, rfl, rfl, rfl, rfl, hk, hD, hdn, har, hrel, hrl, hT⟩ := hst
  have K := Lib.hid hk
  have HD := Lib.hid hD
  have HDN := Lib.hid hdn
  have HAR := Lib.hid har
  have HR := Lib.hid hrel
  have HRL := Lib.hid hrl
  have HT := Lib.hid hT
  have HS := Lib.hid hrel.safeLe
  have HT1 := Lib.hid hrel.T1
  clear hk hD hdn har hrel hrl hT
  subst hr3
  go_wp2_with fail
  refine (km_force0 K.out HR.out HD.out HDN.out HAR.out).mono ?_
  rintro e w5 ⟨rfl, X', D', E', hL, km, dk, dn, ar, kr⟩
  dsimp only
  have KM5 := Lib.hid km
  have HL5 := Lib.hid hL
  have DK5 := Lib.hid dk
  have DN5 := Lib.hid dn
  have AR5 := Lib.hid ar
  have KR5 := Lib.hid kr
  clear km hL dk dn ar kr
  go_wp2_with fail
  refine HK.out _ _ _ _ _ _ _ _ _ _ _ _ _ _ _ _ _ _ _ _ _ _ _ _ _ _ _ _ _ _ _ _ _ _ _ _ _ _ _ _ _ _ _ _ _ _ _ _ _ _ _ _ _ _ _ _ _ _ _ _ _ _ _ _ _ _ _ _ _ _ _ _ _ _ _ _ _ _ _ _ _ _ _ _ _ _ _ _ _ _ _ _ _ _ _ _ _ _ _ _ _ _ _ _ _ _ _ _ _ _ _ _ _ _ _ _ _ _ _ _ _ _ _ _ _ _ _ _ _ _ _ _ _ _ _ _ _ _ _ _ _ _ _ _ _ _ _ _ _ _ _ _ _ _ _ _ _ _ _ _ _ _ _ _ _ _ _ _ _ _ _ _ _ _ _ _ _ _ _ _ _ _ _ _ _ _ _ _ _ _ _ _ _ _ _ _ _ _ _ _ _ _ _ _ _ _ _ _ _ _ _ _ _ _ _ _ _ _ ?_
  exact ⟨T, X', A, c, rows, rows.length, D', E', rfl, by rw [HL5.out], rfl, rfl, KM5.out, DK5.out, DN5.out, AR5.out, KR5.out.mono (Nat.le_succ i), Nat.le_succ_of_le HRL.out, by have := HT.out; omega⟩
set_option maxRecDepth 1000000 in
set_option maxHeartbeats 8000000 in
theorem kw_trim {A0 : Option Addr} {n0 c0 : Nat} {A1 : Option Addr} {n1 c1 : Nat} {A2 : Option Addr} {n2 c2 d ms mo i : Nat} {rs : List (Rec × RecS)} {w wr : World} {Q : Exit → Act → World → Prop} {m : Nat} {r : Int} {c3 c4 c5 u6 u8 u9 c10 u11 u12 u15 u16 u17 u18 u19 u20 u21 u22 u23 u24 u25 u26 u27 c28 c29 c30 c31 c32 c33 c34 c35 c36 c37 c38 c39 c40 c41 c42 c43 c44 c45 c46 c47 c48 c49 c50 c51 u52 u53 u54 u55 u56 u57 u58 u59 u60 u61 u62 u63 u65 u66 u67 u68 u69 u70 u71 u72 u73 u74 u75 u76 u77 u78 u79 u80 u81 u82 u83 u84 u85 u86 u87 u88 u89 u90 u91 u92 u93 u94 u95 u96 u97 u98 u99 u100 u101 u102 u103 u104 u105 u106 u107 u108 u109 u110 u111 u112 u113 u114 u115 u116 u117 u118 u119 u120 u121 u122 u123 u124 u125 u126 u127 u128 u129 u130 u131 u132 u133 u134 u135 u136 u137 u138 u139 u140 u141 u142 u143 u144 u145 u146 u147 u148 u149 u150 u151 u152 u153 u154 u155 u156 u157 u158 u159 u160 u161 u162 u163 u164 u165 u166 u167 u168 u169 u170 u171 u172 u173 u174 u175 u176 u177 u178 u179 u180 u181 u182 u183 u184 u185 u186 u187 u188 u189 u190 u191 u192 u193 u194 u195 u196 u197 u198 u199 u200 u201 u202 u203 u204 u205 u206 u207 u208 u209 u210 u211 u212 u213 u214 u215 u216 u217 u218 u219 u220 u221 u222 u223 u224 u225 u226 u227 u228 u229 u230 u231 u232 u233 u234 u235 u236 u237 u238 u239 u240 u241 u242 u243 u244 u245 u246 u247 u248 u249 : Value} (hr3 : r = 4) (hi : i < 100) (hn1 : n1 ≤ 40) (hn2 : n2 ≤ 100) (hm : m < 4000) (hr : (m : Int).tmod 6 = r) (hst : KSt w d ms mo i u8 u9 u11 u12 wr) (hK : ∀ (v6 v8 v9 v11 v12 v14 v15 v16 v17 v18 v19 v20 v21 v22 v23 v24 v25 v26 v27 v52 v53 v54 v55 v56 v57 v58 v59 v60 v61 v62 v63 v64 v65 v66 v67 v68 v69 v70 v71 v72 v73 v74 v75 v76 v77 v78 v79 v80 v81 v82 v83 v84 v85 v86 v87 v88 v89 v90 v91 v92 v93 v94 v95 v96 v97 v98 v99 v100 v101 v102 v103 v104 v105 v106 v107 v108 v109 v110 v111 v112 v113 v114 v115 v116 v117 v118 v119 v120 v121 v122 v123 v124 v125 v126 v127 v128 v129 v130 v131 v132 v133 v134 v135 v136 v137 v138 v139 v140 v141 v142 v143 v144 v145 v146 v147 v148 v149 v150 v151 v152 v153 v154 v155 v156 v157 v158 v159 v160 v161 v162 v163 v164 v165 v166 v167 v168 v169 v170 v171 v172 v173 v174 v175 v176 v177 v178 v179 v180 v181 v182 v183 v184 v185 v186 v187 v188 v189 v190 v191 v192 v193 v194 v195 v196 v197 v198 v199 v200 v201 v202 v203 v204 v205 v206 v207 v208 v209 v210 v211 v212 v213 v214 v215 v216 v217 v218 v219 v220 v221 v222 v223 v224 v225 v226 v227 v228 v229 v230 v231 v232 v233 v234 v235 v236 v237 v238 v239 v240 v241 v242 v243 v244 v245 v246 v247 v248 v249 : Value) (wc : World), KSt w d ms mo (i + 1) v8 v9 v11 v12 wc → Q .normal ⟨#[.slice A0 n0 c0, .slice A1 n1 c1, .slice A2 n2 c2, c3, c4, c5, v6, .pointer (some ⟨d, 0, none⟩), v8, v9, c10, v11, v12, .int .i64 i, v14, v15, v16, v17, v18, v19, v20, v21, v22, v23, v24, v25, v26, v27, c28, c29, c30, c31, c32, c33, c34, c35, c36, c37, c38, c39, c40, c41, c42, c43, c44, c45, c46, c47, c48, c49, c50, c51, v52, v53, v54, v55, v56, v57, v58, v59, v60, v61, v62, v63, v64, v65, v66, v67, v68, v69, v70, v71, v72, v73, v74, v75, v76, v77, v78, v79, v80, v81, v82, v83, v84, v85, v86, v87, v88, v89, v90, v91, v92, v93, v94, v95, v96, v97, v98, v99, v100, v101, v102, v103, v104, v105, v106, v107, v108, v109, v110, v111, v112, v113, v114, v115, v116, v117, v118, v119, v120, v121, v122, v123, v124, v125, v126, v127, v128, v129, v130, v131, v132, v133, v134, v135, v136, v137, v138, v139, v140, v141, v142, v143, v144, v145, v146, v147, v148, v149, v150, v151, v152, v153, v154, v155, v156, v157, v158, v159, v160, v161, v162, v163, v164, v165, v166, v167, v168, v169, v170, v171, v172, v173, v174, v175, v176, v177, v178, v179, v180, v181, v182, v183, v184, v185, v186, v187, v188, v189, v190, v191, v192, v193, v194, v195, v196, v197, v198, v199, v200, v201, v202, v203, v204, v205, v206, v207, v208, v209, v210, v211, v212, v213, v214, v215, v216, v217, v218, v219, v220, v221, v222, v223, v224, v225, v226, v227, v228, v229, v230, v231, v232, v233, v234, v235, v236, v237, v238, v239, v240, v241, v242, v243, v244, v245, v246, v247, v248, v249], []⟩ wc) (hC : ∀ (v6 v8 v9 v11 v12 v14 v15 v16 v17 v18 v19 v20 v21 v22 v23 v24 v25 v26 v27 v52 v53 v54 v55 v56 v57 v58 v59 v60 v61 v62 v63 v64 v65 v66 v67 v68 v69 v70 v71 v72 v73 v74 v75 v76 v77 v78 v79 v80 v81 v82 v83 v84 v85 v86 v87 v88 v89 v90 v91 v92 v93 v94 v95 v96 v97 v98 v99 v100 v101 v102 v103 v104 v105 v106 v107 v108 v109 v110 v111 v112 v113 v114 v115 v116 v117 v118 v119 v120 v121 v122 v123 v124 v125 v126 v127 v128 v129 v130 v131 v132 v133 v134 v135 v136 v137 v138 v139 v140 v141 v142 v143 v144 v145 v146 v147 v148 v149 v150 v151 v152 v153 v154 v155 v156 v157 v158 v159 v160 v161 v162 v163 v164 v165 v166 v167 v168 v169 v170 v171 v172 v173 v174 v175 v176 v177 v178 v179 v180 v181 v182 v183 v184 v185 v186 v187 v188 v189 v190 v191 v192 v193 v194 v195 v196 v197 v198 v199 v200 v201 v202 v203 v204 v205 v206 v207 v208 v209 v210 v211 v212 v213 v214 v215 v216 v217 v218 v219 v220 v221 v222 v223 v224 v225 v226 v227 v228 v229 v230 v231 v232 v233 v234 v235 v236 v237 v238 v239 v240 v241 v242 v243 v244 v245 v246 v247 v248 v249 : Value) (wc : World), KSt w d ms mo (i + 1) v8 v9 v11 v12 wc → Q (.exit 1) ⟨#[.slice A0 n0 c0, .slice A1 n1 c1, .slice A2 n2 c2, c3, c4, c5, v6, .pointer (some ⟨d, 0, none⟩), v8, v9, c10, v11, v12, .int .i64 i, v14, v15, v16, v17, v18, v19, v20, v21, v22, v23, v24, v25, v26, v27, c28, c29, c30, c31, c32, c33, c34, c35, c36, c37, c38, c39, c40, c41, c42, c43, c44, c45, c46, c47, c48, c49, c50, c51, v52, v53, v54, v55, v56, v57, v58, v59, v60, v61, v62, v63, v64, v65, v66, v67, v68, v69, v70, v71, v72, v73, v74, v75, v76, v77, v78, v79, v80, v81, v82, v83, v84, v85, v86, v87, v88, v89, v90, v91, v92, v93, v94, v95, v96, v97, v98, v99, v100, v101, v102, v103, v104, v105, v106, v107, v108, v109, v110, v111, v112, v113, v114, v115, v116, v117, v118, v119, v120, v121, v122, v123, v124, v125, v126, v127, v128, v129, v130, v131, v132, v133, v134, v135, v136, v137, v138, v139, v140, v141, v142, v143, v144, v145, v146, v147, v148, v149, v150, v151, v152, v153, v154, v155, v156, v157, v158, v159, v160, v161, v162, v163, v164, v165, v166, v167, v168, v169, v170, v171, v172, v173, v174, v175, v176, v177, v178, v179, v180, v181, v182, v183, v184, v185, v186, v187, v188, v189, v190, v191, v192, v193, v194, v195, v196, v197, v198, v199, v200, v201, v202, v203, v204, v205, v206, v207, v208, v209, v210, v211, v212, v213, v214, v215, v216, v217, v218, v219, v220, v221, v222, v223, v224, v225, v226, v227, v228, v229, v230, v231, v232, v233, v234, v235, v236, v237, v238, v239, v240, v241, v242, v243, v244, v245, v246, v247, v248, v249], []⟩ wc) : Code.wp Tryd.prog kDo Q ⟨#[.slice A0 n0 c0, .slice A1 n1 c1, .slice A2 n2 c2, c3, c4, c5, u6, .pointer (some ⟨d, 0, none⟩), u8, u9, c10, u11, u12, .int .i64 i, .int .i64 m, u15, u16, u17, u18, u19, u20, u21, u22, u23, u24, u25, u26, u27, c28, c29, c30, c31, c32, c33, c34, c35, c36, c37, c38, c39, c40, c41, c42, c43, c44, c45, c46, c47, c48, c49, c50, c51, u52, u53, u54, u55, u56, u57, u58, u59, u60, u61, u62, u63, .int .i64 r, u65, u66, u67, u68, u69, u70, u71, u72, u73, u74, u75, u76, u77, u78, u79, u80, u81, u82, u83, u84, u85, u86, u87, u88, u89, u90, u91, u92, u93, u94, u95, u96, u97, u98, u99, u100, u101, u102, u103, u104, u105, u106, u107, u108, u109, u110, u111, u112, u113, u114, u115, u116, u117, u118, u119, u120, u121, u122, u123, u124, u125, u126, u127, u128, u129, u130, u131, u132, u133, u134, u135, u136, u137, u138, u139, u140, u141, u142, u143, u144, u145, u146, u147, u148, u149, u150, u151, u152, u153, u154, u155, u156, u157, u158, u159, u160, u161, u162, u163, u164, u165, u166, u167, u168, u169, u170, u171, u172, u173, u174, u175, u176, u177, u178, u179, u180, u181, u182, u183, u184, u185, u186, u187, u188, u189, u190, u191, u192, u193, u194, u195, u196, u197, u198, u199, u200, u201, u202, u203, u204, u205, u206, u207, u208, u209, u210, u211, u212, u213, u214, u215, u216, u217, u218, u219, u220, u221, u222, u223, u224, u225, u226, u227, u228, u229, u230, u231, u232, u233, u234, u235, u236, u237, u238, u239, u240, u241, u242, u243, u244, u245, u246, u247, u248, u249], []⟩ wr := by
  have HK := Lib.hid hK
  have HC := Lib.hid hC
  clear hK hC
  conv => arg 2; whnf
  have mixed : Tryd.prog.follows .mixedOrders = true := by kernel_rfl
  have HM := Lib.hid hm
  clear hm
  obtain ⟨q, hq, hq6⟩ : ∃ q : Nat, (m : Int).tdiv 6 = (q : Int) ∧ q ≤ 666 := ⟨m / 6, by rw [Int.tdiv_eq_ediv_of_nonneg (by omega)]; have := HM.out; omega, by have := HM.out; omega⟩
  obtain ⟨T, X, A, c, rows, safe, D, E, rfl, rfl, rfl, rfl, hk, hD, hdn, har, hrel, hrl, hT⟩ := hst
  have K := Lib.hid hk
  have HD := Lib.hid hD
  have HDN := Lib.hid hdn
  have HAR := Lib.hid har
  have HR := Lib.hid hrel
  have HRL := Lib.hid hrl
  have HT := Lib.hid hT
  have HS := Lib.hid hrel.safeLe
  have HT1 := Lib.hid hrel.T1
  clear hk hD hdn har hrel hrl hT
  subst hr3
  have hsl : safe ≤ rows.length := by have := HS.out; rw [List.length_map] at this; exact this
  have hmin : min (safe : Int) (rows.length : Int) = (safe : Int) := by omega
  have hrl := HRL.out
  obtain ⟨kk, hkk, hk2⟩ : ∃ kk : Nat, (safe : Int).tdiv 2 = (kk : Int) ∧ kk = safe / 2 := ⟨safe / 2, by rw [Int.tdiv_eq_ediv_of_nonneg (by omega)]; omega, rfl⟩
  have hkb : (kk : Int) ≤ 100 := by omega
  have HK2 := Lib.hid hk2
  have HSL := Lib.hid hsl
  have hsi : (safe : Int) ≤ 100 := by omega
  clear hk2 hsl
  by_cases hk0 : kk = 0
  · have hkd : decide ((0 : Int) < (kk : Int)) = false := by simp; omega
    have hkn : ¬ (0 : Int) < (kk : Int) := by omega
    have KY := K.out
    go_wp2_with fail
    refine HK.out _ _ _ _ _ _ _ _ _ _ _ _ _ _ _ _ _ _ _ _ _ _ _ _ _ _ _ _ _ _ _ _ _ _ _ _ _ _ _ _ _ _ _ _ _ _ _ _ _ _ _ _ _ _ _ _ _ _ _ _ _ _ _ _ _ _ _ _ _ _ _ _ _ _ _ _ _ _ _ _ _ _ _ _ _ _ _ _ _ _ _ _ _ _ _ _ _ _ _ _ _ _ _ _ _ _ _ _ _ _ _ _ _ _ _ _ _ _ _ _ _ _ _ _ _ _ _ _ _ _ _ _ _ _ _ _ _ _ _ _ _ _ _ _ _ _ _ _ _ _ _ _ _ _ _ _ _ _ _ _ _ _ _ _ _ _ _ _ _ _ _ _ _ _ _ _ _ _ _ _ _ _ _ _ _ _ _ _ _ _ _ _ _ _ _ _ _ _ _ _ _ _ _ _ _ _ _ _ _ _ _ _ _ _ _ _ _ _ ?_
    exact ⟨T, X, A, c, rows, safe, D, E, rfl, rfl, rfl, rfl, KY, HD.out, HDN.out, HAR.out, HR.out.mono (Nat.le_succ i), Nat.le_succ_of_le HRL.out, by have := HT.out; omega⟩
  · have hkd : decide ((0 : Int) < (kk : Int)) = true := by simp; omega
    have hkp : (0 : Int) < (kk : Int) := by omega
    have hne : rows ≠ [] := fun e => by have h1 := HK2.out; have h2 := HSL.out; rw [e] at h2; simp at h2; omega
    have HNE := Lib.hid hne
    clear hne
    go_wp2_with fail
    refine (km_first K.out.log HR.out (by omega)).mono ?_
    rintro e w5 ⟨rfl, t5⟩
    dsimp only
    have K5 := Lib.hid (K.out.fresh t5)
    clear t5
    go_wp2_with fail
    refine (km_from K5.out.log HR.out (by omega) HNE.out).mono ?_
    rintro e w6 ⟨A', c', rws, rfl, hmap, hra⟩
    dsimp only
    have K6 := Lib.hid (K5.out.fresh hra.turned)
    have hll : X.ls.length = rows.length := by have := HR.out.lsLen; rw [List.length_map] at this; exact this
    rw [hll] at hra ⊢
    have hkl : kk < rows.length := by have h1 := HK2.out; have h2 := HSL.out; omega
    obtain ⟨x, hx⟩ : ∃ x, X.ls[kk]? = some x := ⟨_, List.getElem?_eq_getElem (by omega)⟩
    have hrk : ∃ r', rws[kk]? = some r' ∧ r'.1.lsn = x := by
      have hl2 := hra.len
      refine ⟨_, List.getElem?_eq_getElem (by omega), ?_⟩
      have h3 : (rws.map Prod.fst)[kk]? = (recsX X.ls (rows.map Prod.fst))[kk]? := by rw [hmap]
      unfold recsX at h3
      rw [List.getElem?_zipWith, hx, List.getElem?_eq_getElem (l := rows.map Prod.fst) (by rw [List.length_map]; exact hkl), List.getElem?_map, List.getElem?_eq_getElem (l := rws) (by omega)] at h3
      simp only [Option.map_some, Option.some.injEq] at h3
      rw [h3]
    obtain ⟨r', hr1, hr2⟩ := hrk
    obtain ⟨ag, ao, rfl, hcell⟩ : ∃ ag ao, A' = some ⟨ag, ao, none⟩ ∧ w6.cell? ⟨ag, ao + kk * 11, none⟩ = some (.int .i64 x) := by
      have hcr := hra.own.celR
      obtain ⟨ag, ao, e, _⟩ := hcr.cell (by omega)
      subst e
      exact ⟨ag, ao, rfl, by have h9 := (CelR.recPl hcr hr1 hkl).cells.1; rw [hr2] at h9; exact h9⟩
    obtain ⟨g, go, rfl, _⟩ := K6.out.all.some_ (by omega)
    have HX := Lib.hid hx
    clear hx hr1 hr2 hmap hra hll K5
    have hkl2 : (kk : Int) < (rows.length : Int) := by omega
    have hnn : ((rows.length : Int) != (rows.length : Int)) = false := by simp
    go_wp2_with fail
    refine (km_trim K6.out HR.out (by have h1 := HK2.out; omega) HX.out (by omega)).mono ?_
    rintro e w7 ⟨rfl, X', hL, km, kr⟩
    dsimp only
    have KM7 := Lib.hid km
    have HL7 := Lib.hid hL
    have KR7 := Lib.hid kr
    clear km hL kr hcell K6
    have hmax := KM7.out.all.max
    have hmx2 := hmax.1
    have hwr : IntKind.i64.wrap ((safe : Int) - (kk : Int)) = ((safe - kk : Nat) : Int) := by rw [IntWalk.i64_in _ (by have := HK2.out; omega)]; have := HK2.out; omega
    have hkd2 := KM7.out.drop (Nat.le_of_lt hkl)
    have KD := Lib.hid hkd2
    clear hkd2 hmax
    go_wp2_with fail
    refine HK.out _ _ _ _ _ _ _ _ _ _ _ _ _ _ _ _ _ _ _ _ _ _ _ _ _ _ _ _ _ _ _ _ _ _ _ _ _ _ _ _ _ _ _ _ _ _ _ _ _ _ _ _ _ _ _ _ _ _ _ _ _ _ _ _ _ _ _ _ _ _ _ _ _ _ _ _ _ _ _ _ _ _ _ _ _ _ _ _ _ _ _ _ _ _ _ _ _ _ _ _ _ _ _ _ _ _ _ _ _ _ _ _ _ _ _ _ _ _ _ _ _ _ _ _ _ _ _ _ _ _ _ _ _ _ _ _ _ _ _ _ _ _ _ _ _ _ _ _ _ _ _ _ _ _ _ _ _ _ _ _ _ _ _ _ _ _ _ _ _ _ _ _ _ _ _ _ _ _ _ _ _ _ _ _ _ _ _ _ _ _ _ _ _ _ _ _ _ _ _ _ _ _ _ _ _ _ _ _ _ _ _ _ _ _ _ _ _ _ ?_
    exact ⟨T, X', some ⟨g, go + kk * 11, none⟩, c - kk, rows.drop kk, safe - kk, D, E, rfl, by rw [HL7.out], by rw [List.length_drop], rfl, KD.out, HD.out, HDN.out, HAR.out, KR7.out.mono (Nat.le_succ i), by rw [List.length_drop]; have := HRL.out; omega, by have := HT.out; omega⟩
end Go.Proofs.YtfheikmjjijdpaaDoor

