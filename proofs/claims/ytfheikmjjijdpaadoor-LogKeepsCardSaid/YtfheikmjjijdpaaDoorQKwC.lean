/-
  LogKeeps: a crash: what was safe is found again. Condition: the step's kind is 5.
-/
import Derived.Test.YtfheikmjjijdpaaDoorQKmX
namespace Go.Proofs.YtfheikmjjijdpaaDoor
open Go.RowKit Go.Maps Go.Proofs
set_option linter.unusedVariables false
set_option linter.unusedSimpArgs false

set_option maxRecDepth 1000000 in
set_option maxHeartbeats 8000000 in
theorem kw_crash {A0 : Option Addr} {n0 c0 : Nat} {A1 : Option Addr} {n1 c1 : Nat} {A2 : Option Addr} {n2 c2 d ms mo i : Nat} {rs : List (Rec × RecS)} {w wr : World} {Q : Exit → Act → World → Prop} {m : Nat} {r : Int} {c3 c4 c5 u6 u8 u9 c10 u11 u12 u15 u16 u17 u18 u19 u20 u21 u22 u23 u24 u25 u26 u27 c28 c29 c30 c31 c32 c33 c34 c35 c36 c37 c38 c39 c40 c41 c42 c43 c44 c45 c46 c47 c48 c49 c50 c51 u52 u53 u54 u55 u56 u57 u58 u59 u60 u61 u62 u63 u65 u66 u67 u68 u69 u70 u71 u72 u73 u74 u75 u76 u77 u78 u79 u80 u81 u82 u83 u84 u85 u86 u87 u88 u89 u90 u91 u92 u93 u94 u95 u96 u97 u98 u99 u100 u101 u102 u103 u104 u105 u106 u107 u108 u109 u110 u111 u112 u113 u114 u115 u116 u117 u118 u119 u120 u121 u122 u123 u124 u125 u126 u127 u128 u129 u130 u131 u132 u133 u134 u135 u136 u137 u138 u139 u140 u141 u142 u143 u144 u145 u146 u147 u148 u149 u150 u151 u152 u153 u154 u155 u156 u157 u158 u159 u160 u161 u162 u163 u164 u165 u166 u167 u168 u169 u170 u171 u172 u173 u174 u175 u176 u177 u178 u179 u180 u181 u182 u183 u184 u185 u186 u187 u188 u189 u190 u191 u192 u193 u194 u195 u196 u197 u198 u199 u200 u201 u202 u203 u204 u205 u206 u207 u208 u209 u210 u211 u212 u213 u214 u215 u216 u217 u218 u219 u220 u221 u222 u223 u224 u225 u226 u227 u228 u229 u230 u231 u232 u233 u234 u235 u236 u237 u238 u239 u240 u241 u242 u243 u244 u245 u246 u247 u248 u249 : Value} (hr3 : r = 5) (h2 : FatL w A2 n2 c2) (hi : i < 100) (hn1 : n1 ≤ 40) (hn2 : n2 ≤ 100) (hm : m < 4000) (hr : (m : Int).tmod 6 = r) (hst : KSt w d ms mo i u8 u9 u11 u12 wr) (hK : ∀ (v6 v8 v9 v11 v12 v14 v15 v16 v17 v18 v19 v20 v21 v22 v23 v24 v25 v26 v27 v52 v53 v54 v55 v56 v57 v58 v59 v60 v61 v62 v63 v64 v65 v66 v67 v68 v69 v70 v71 v72 v73 v74 v75 v76 v77 v78 v79 v80 v81 v82 v83 v84 v85 v86 v87 v88 v89 v90 v91 v92 v93 v94 v95 v96 v97 v98 v99 v100 v101 v102 v103 v104 v105 v106 v107 v108 v109 v110 v111 v112 v113 v114 v115 v116 v117 v118 v119 v120 v121 v122 v123 v124 v125 v126 v127 v128 v129 v130 v131 v132 v133 v134 v135 v136 v137 v138 v139 v140 v141 v142 v143 v144 v145 v146 v147 v148 v149 v150 v151 v152 v153 v154 v155 v156 v157 v158 v159 v160 v161 v162 v163 v164 v165 v166 v167 v168 v169 v170 v171 v172 v173 v174 v175 v176 v177 v178 v179 v180 v181 v182 v183 v184 v185 v186 v187 v188 v189 v190 v191 v192 v193 v194 v195 v196 v197 v198 v199 v200 v201 v202 v203 v204 v205 v206 v207 v208 v209 v210 v211 v212 v213 v214 v215 v216 v217 v218 v219 v220 v221 v222 v223 v224 v225 v226 v227 v228 v229 v230 v231 v232 v233 v234 v235 v236 v237 v238 v239 v240 v241 v242 v243 v244 v245 v246 v247 v248 v249 : Value) (wc : World), KSt w d ms mo (i + 1) v8 v9 v11 v12 wc → Q .normal ⟨#[.slice A0 n0 c0, .slice A1 n1 c1, .slice A2 n2 c2, c3, c4, c5, v6, .pointer (some ⟨d, 0, none⟩), v8, v9, c10, v11, v12, .int .i64 i, v14, v15, v16, v17, v18, v19, v20, v21, v22, v23, v24, v25, v26, v27, c28, c29, c30, c31, c32, c33, c34, c35, c36, c37, c38, c39, c40, c41, c42, c43, c44, c45, c46, c47, c48, c49, c50, c51, v52, v53, v54, v55, v56, v57, v58, v59, v60, v61, v62, v63, v64, v65, v66, v67, v68, v69, v70, v71, v72, v73, v74, v75, v76, v77, v78, v79, v80, v81, v82, v83, v84, v85, v86, v87, v88, v89, v90, v91, v92, v93, v94, v95, v96, v97, v98, v99, v100, v101, v102, v103, v104, v105, v106, v107, v108, v109, v110, v111, v112, v113, v114, v115, v116, v117, v118, v119, v120, v121, v122, v123, v124, v125, v126, v127, v128, v129, v130, v131, v132, v133, v134, v135, v136, v137, v138, v139, v140, v141, v142, v143, v144, v145, v146, v147, v148, v149, v150, v151, v152, v153, v154, v155, v156, v157, v158, v159, v160, v161, v162, v163, v164, v165, v166, v167, v168, v169, v170, v171, v172, v173, v174, v175, v176, v177, v178, v179, v180, v181, v182, v183, v184, v185, v186, v187, v188, v189, v190, v191, v192, v193, v194, v195, v196, v197, v198, v199, v200, v201, v202, v203, v204, v205, v206, v207, v208, v209, v210, v211, v212, v213, v214, v215, v216, v217, v218, v219, v220, v221, v222, v223, v224, v225, v226, v227, v228, v229, v230, v231, v232, v233, v234, v235, v236, v237, v238, v239, v240, v241, v242, v243, v244, v245, v246, v247, v248, v249], []⟩ wc) (hC : ∀ (v6 v8 v9 v11 v12 v14 v15 v16 v17 v18 v19 v20 v21 v22 v23 v24 v25 v26 v27 v52 v53 v54 v55 v56 v57 v58 v59 v60 v61 v62 v63 v64 v65 v66 v67 v68 v69 v70 v71 v72 v73 v74 v75 v76 v77 v78 v79 v80 v81 v82 v83 v84 v85 v86 v87 v88 v89 v90 v91 v92 v93 v94 v95 v96 v97 v98 v99 v100 v101 v102 v103 v104 v105 v106 v107 v108 v109 v110 v111 v112 v113 v114 v115 v116 v117 v118 v119 v120 v121 v122 v123 v124 v125 v126 v127 v128 v129 v130 v131 v132 v133 v134 v135 v136 v137 v138 v139 v140 v141 v142 v143 v144 v145 v146 v147 v148 v149 v150 v151 v152 v153 v154 v155 v156 v157 v158 v159 v160 v161 v162 v163 v164 v165 v166 v167 v168 v169 v170 v171 v172 v173 v174 v175 v176 v177 v178 v179 v180 v181 v182 v183 v184 v185 v186 v187 v188 v189 v190 v191 v192 v193 v194 v195 v196 v197 v198 v199 v200 v201 v202 v203 v204 v205 v206 v207 v208 v209 v210 v211 v212 v213 v214 v215 v216 v217 v218 v219 v220 v221 v222 v223 v224 v225 v226 v227 v228 v229 v230 v231 v232 v233 v234 v235 v236 v237 v238 v239 v240 v241 v242 v243 v244 v245 v246 v247 v248 v249 : Value) (wc : World), KSt w d ms mo (i + 1) v8 v9 v11 v12 wc → Q (.exit 1) ⟨#[.slice A0 n0 c0, .slice A1 n1 c1, .slice A2 n2 c2, c3, c4, c5, v6, .pointer (some ⟨d, 0, none⟩), v8, v9, c10, v11, v12, .int .i64 i, v14, v15, v16, v17, v18, v19, v20, v21, v22, v23, v24, v25, v26, v27, c28, c29, c30, c31, c32, c33, c34, c35, c36, c37, c38, c39, c40, c41, c42, c43, c44, c45, c46, c47, c48, c49, c50, c51, v52, v53, v54, v55, v56, v57, v58, v59, v60, v61, v62, v63, v64, v65, v66, v67, v68, v69, v70, v71, v72, v73, v74, v75, v76, v77, v78, v79, v80, v81, v82, v83, v84, v85, v86, v87, v88, v89, v90, v91, v92, v93, v94, v95, v96, v97, v98, v99, v100, v101, v102, v103, v104, v105, v106, v107, v108, v109, v110, v111, v112, v113, v114, v115, v116, v117, v118, v119, v120, v121, v122, v123, v124, v125, v126, v127, v128, v129, v130, v131, v132, v133, v134, v135, v136, v137, v138, v139, v140, v141, v142, v143, v144, v145, v146, v147, v148, v149, v150, v151, v152, v153, v154, v155, v156, v157, v158, v159, v160, v161, v162, v163, v164, v165, v166, v167, v168, v169, v170, v171, v172, v173, v174, v175, v176, v177, v178, v179, v180, v181, v182, v183, v184, v185, v186, v187, v188, v189, v190, v191, v192, v193, v194, v195, v196, v197, v198, v199, v200, v201, v202, v203, v204, v205, v206, v207, v208, v209, v210, v211, v212, v213, v214, v215, v216, v217, v218, v219, v220, v221, v222, v223, v224, v225, v226, v227, v228, v229, v230, v231, v232, v233, v234, v235, v236, v237, v238, v239, v240, v241, v242, v243, v244, v245, v246, v247, v248, v249], []⟩ wc) : Code.wp Tryd.prog kDo Q ⟨#[.slice A0 n0 c0, .slice A1 n1 c1, .slice A2 n2 c2, c3, c4, c5, u6, .pointer (some ⟨d, 0, none⟩), u8, u9, c10, u11, u12, .int .i64 i, .int .i64 m, u15, u16, u17, u18, u19, u20, u21, u22, u23, u24, u25, u26, u27, c28, c29, c30, c31, c32, c33, c34, c35, c36, c37, c38, c39, c40, c41, c42, c43, c44, c45, c46, c47, c48, c49, c50, c51, u52, u53, u54, u55, u56, u57, u58, u59, u60, u61, u62, u63, .int .i64 r, u65, u66, u67, u68, u69, u70, u71, u72, u73, u74, u75, u76, u77, u78, u79, u80, u81, u82, u83, u84, u85, u86, u87, u88, u89, u90, u91, u92, u93, u94, u95, u96, u97, u98, u99, u100, u101, u102, u103, u104, u105, u106, u107, u108, u109, u110, u111, u112, u113, u114, u115, u116, u117, u118, u119, u120, u121, u122, u123, u124, u125, u126, u127, u128, u129, u130, u131, u132, u133, u134, u135, u136, u137, u138, u139, u140, u141, u142, u143, u144, u145, u146, u147, u148, u149, u150, u151, u152, u153, u154, u155, u156, u157, u158, u159, u160, u161, u162, u163, u164, u165, u166, u167, u168, u169, u170, u171, u172, u173, u174, u175, u176, u177, u178, u179, u180, u181, u182, u183, u184, u185, u186, u187, u188, u189, u190, u191, u192, u193, u194, u195, u196, u197, u198, u199, u200, u201, u202, u203, u204, u205, u206, u207, u208, u209, u210, u211, u212, u213, u214, u215, u216, u217, u218, u219, u220, u221, u222, u223, u224, u225, u226, u227, u228, u229, u230, u231, u232, u233, u234, u235, u236, u237, u238, u239, u240, u241, u242, u243, u244, u245, u246, u247, u248, u249], []⟩ wr := by
  have HK := Lib.hid hK
  have HC := Lib.hid hC
  clear hK hC
  conv => arg 2; whnf
  have mixed : Tryd.prog.follows .mixedOrders = true := by kernel_rfl
  have HM := Lib.hid hm
  clear hm
  obtain ⟨q, hq, hq6⟩ : ∃ q : Nat, (m : Int).tdiv 6 = (q : Int) ∧ q ≤ 666 := ⟨m / 6, by rw [Int.tdiv_eq_ediv_of_nonneg (by omega)]; have := HM.out; omega, by have := HM.out; omega⟩
  obtain ⟨T, X, A, c, rows, safe, D, E, rfl, rfl, rfl, rfl, hk, hD, hdn, har, hrel, hrl, hT⟩ := hst
  have K := Lib.hid hk
  have HD := Lib.hid hD
  have HDN := Lib.hid hdn
  have HAR := Lib.hid har
  have HR := Lib.hid hrel
  have HRL := Lib.hid hrl
  have HT := Lib.hid hT
  have HS := Lib.hid hrel.safeLe
  have HT1 := Lib.hid hrel.T1
  clear hk hD hdn har hrel hrl hT
  subst hr3
  have H2 := Lib.hid h2
  clear h2
  obtain ⟨a8, ha8, ha1, ha2⟩ : ∃ a8 : Int, (q : Int).tmod 8 = a8 ∧ 0 ≤ a8 ∧ a8 < 8 := ⟨(q : Int) % 8, by rw [Int.tmod_eq_emod_of_nonneg (by omega)], by omega, by omega⟩
  have hTa : 1 ≤ T := HT1.out
  have hTb : T ≤ 101 := by have := HT.out; omega
  go_wp2_with fail
  refine (mold_any X wr K.out.log).mono ?_
  rintro e w5 ⟨rfl, t5⟩
  dsimp only
  have K5 := Lib.hid (K.out.fresh t5)
  clear t5 K
  go_wp2_with fail
  refine (km_first K5.out.log HR.out (by have := HRL.out; omega)).mono ?_
  rintro e w6 ⟨rfl, t6⟩
  dsimp only
  have K6 := Lib.hid (K5.out.fresh t6)
  clear t6 K5
  go_wp2_with fail
  refine (arm_ok20 d ms mo D (1 + a8) w6 K6.out.disk HDN.out ⟨by omega, by omega⟩).mono ?_
  rintro e w7 ⟨rfl, hd7, t7⟩
  dsimp only
  have K7 := Lib.hid (K6.out.dsk t7 hd7)
  have HD7 := Lib.hid (show DkIs { D with armed := 1 + a8 } E from ⟨HD.out.n, HD.out.lat, HD.out.saf, HD.out.opn⟩)
  clear hd7 t7 K6
  go_wp2_with fail
  refine (km_force1 K7.out HR.out HD7.out HDN.out).mono ?_
  rintro e w8 ⟨code, safe', rfl, hcs, D1, kn, hfs⟩
  dsimp only
  have KN8 := Lib.hid kn
  have HFS := Lib.hid hfs
  have HCS := Lib.hid hcs
  clear kn hfs hcs K7 HD7
  go_upto_if 79 with fail
  go_cut [12] from 80 to 249 (fun u12 wc => u12 = .int .i64 safe' ∧ wc = w8)
  case first =>
    rcases HCS.out with ⟨rfl, rfl⟩ | ⟨rfl, rfl⟩
    · go_wp2_with fail
      go_meet
      exact ⟨rfl, rfl⟩
    · go_wp2_with fail
      go_meet
      exact ⟨rfl, rfl⟩
  case rest =>
    obtain ⟨rfl, hw⟩ := hcut
    obtain rfl : w8 = wc := hw.symm
    clear hw
    go_upto_region 23 with fail
    go_cut [93] from 82 to 249 (fun u93 wc => ∃ b : Bool, u93 = .bool b ∧ (b = true → i < n2) ∧ wc = w8)
    case first =>
      by_cases hin : i < n2
      · have hii : (i : Int) < (n2 : Int) := by omega
        have hid : decide ((i : Int) < (n2 : Int)) = true := by simp; omega
        obtain ⟨b2, f2, F, m2, cc, fs, rfl, hcell, _, _, _⟩ := H2.out.at_ KN8.out.turned hin
        by_cases hm50 : m2 < 50
        · have h50 : (m2 : Int) < 50 := by omega
          have h50d : decide ((m2 : Int) < 50) = true := by simp; omega
          go_wp2_with fail
          go_meet
          exact ⟨true, rfl, fun _ => hin, rfl⟩
        · have h50 : ¬ (m2 : Int) < 50 := by omega
          have h50d : decide ((m2 : Int) < 50) = false := by simp; omega
          go_wp2_with fail
          go_meet
          exact ⟨false, rfl, (fun e => by cases e), rfl⟩
      · have hii : ¬ (i : Int) < (n2 : Int) := by omega
        have hid : decide ((i : Int) < (n2 : Int)) = false := by simp; omega
        go_wp2_with fail
        go_meet
        exact ⟨false, rfl, (fun e => by cases e), rfl⟩
    case rest =>
      obtain ⟨b, rfl, hb, hw⟩ := hcut
      obtain rfl : w8 = wc := hw.symm
      clear hw
      go_upto_if 93 with fail
      go_cut [22] from 94 to 249 (fun u22 wc => ∃ F m2 cc fs, u22 = .slice F m2 cc ∧ IntsR w8 d F m2 fs ∧ wc = w8)
      case first =>
        cases b
        · go_wp2_with fail
          go_meet
          exact ⟨none, 0, 0, [], rfl, IntsR.none_ _ _, rfl⟩
        · have hin := hb rfl
          have hii : (i : Int) < (n2 : Int) := by omega
          obtain ⟨b2, f2, F, m2, cc, fs, rfl, hcell, hF, _, _⟩ := H2.out.at_ KN8.out.turned hin
          have HF := Lib.hid hF
          clear hF
          go_wp2_with fail
          go_meet
          exact ⟨F, m2, cc, fs, rfl, HF.out.ints KN8.out.turned (KN8.out.oD d (.inl rfl)), rfl⟩
      case rest =>
        obtain ⟨F, m2, cc, fs, rfl, hI, hw⟩ := hcut
        obtain rfl : w8 = wc := hw.symm
        clear hw hb
        have HI := Lib.hid hI
        clear hI
        go_wp2_with fail
        refine (wake_any d ms mo D1 F m2 cc fs w8 KN8.out.disk HI.out).mono ?_
        rintro e w9 ⟨rfl, hd9, t9⟩
        dsimp only
        have KN9 := Lib.hid (KN8.out.dsk t9 hd9)
        obtain ⟨E', hDk, hNx⟩ := HFS.out fs
        have HDK := Lib.hid hDk
        have HNX := Lib.hid hNx
        clear hd9 t9 hDk hNx HFS KN8 HI
        go_wp2_with fail
        refine (km_open KN9.out HDK.out rfl HNX.out ⟨by omega, by omega⟩ (by omega)).mono ?_
        rintro e w10 ⟨X', n, rfl, km, hn, hsn, hold, kr⟩
        dsimp only
        have KM10 := Lib.hid km
        have HN := Lib.hid hn
        have HSN := Lib.hid hsn
        have HO := Lib.hid hold
        have KR10 := Lib.hid kr
        clear km hn hsn hold kr KN9 HNX
        go_upto_if 115 with fail
        go_cut [25] from 116 to 249 (fun u25 wc => u25 = .int .i64 n ∧ Turned (fun _ => False) w10 wc)
        case first =>
          by_cases hz : rows = []
          · subst hz
            obtain rfl : n = 0 := by have := HN.out; simpa using this
            go_wp2_with fail
            go_meet
            exact ⟨rfl, Turned.refl _ _⟩
          · have hpos : 0 < rows.length := List.length_pos_iff.2 hz
            have hpd : decide ((0 : Int) < (rows.length : Int)) = true := by simp; exact hpos
            have hpi : (0 : Int) < (rows.length : Int) := by omega
            clear hz
            go_wp2_with fail
            have hlt : ((rows.take n).map Prod.fst).length = n := by rw [List.length_map, List.length_take]; have := HN.out; omega
            have hcall := km_from_len KM10.out.log KR10.out (by rw [hlt]; have h1 := HN.out; have h2 := HRL.out; omega)
            rw [hlt, HO.out] at hcall
            refine hcall.mono ?_
            clear hcall hlt
            rintro e w11 ⟨A3, c3, rfl, t11⟩
            dsimp only
            go_wp2_with fail
            go_meet
            exact ⟨rfl, t11⟩
        case rest =>
          obtain ⟨rfl, t11⟩ := hcut
          have KM11 := Lib.hid (KM10.out.fresh t11)
          clear t11 KM10
          have hns : ¬ (n : Int) < (safe' : Int) := by have := HSN.out; omega
          have hnsd : decide ((n : Int) < (safe' : Int)) = false := by simp; omega
          have hnl : ¬ (rows.length : Int) < (n : Int) := by have := HN.out; omega
          have hnld : decide ((rows.length : Int) < (n : Int)) = false := by simp; omega
          have hn100 : (n : Int) ≤ 100 := by have h1 := HN.out; have h2 := HRL.out; omega
          have fin : KSt w d ms mo (i + 1) (.int .i64 (T + 1)) (.pointer (some ⟨X'.L, 0, none⟩)) (.slice A n c) (.int .i64 n) wc := ⟨T + 1, X', A, c, rows.take n, n, D1.wake fs, E', rfl, rfl, by rw [List.length_take, Nat.min_eq_left HN.out], rfl, KM11.out.cut HN.out, HDK.out, rfl, rfl, KR10.out.mono (Nat.le_succ i), by rw [List.length_take]; have h1 := HN.out; have h2 := HRL.out; omega, by have := HT.out; omega⟩
          have FIN := Lib.hid fin
          clear fin
          rcases KM11.out.all with ⟨rfl, hl0, rfl, _⟩ | ⟨g, go, rfl, hrow⟩
          · obtain rfl : rows = [] := List.length_eq_zero_iff.1 hl0
            obtain rfl : n = 0 := by have := HN.out; simpa using this
            go_wp2_with fail
            refine HK.out _ _ _ _ _ _ _ _ _ _ _ _ _ _ _ _ _ _ _ _ _ _ _ _ _ _ _ _ _ _ _ _ _ _ _ _ _ _ _ _ _ _ _ _ _ _ _ _ _ _ _ _ _ _ _ _ _ _ _ _ _ _ _ _ _ _ _ _ _ _ _ _ _ _ _ _ _ _ _ _ _ _ _ _ _ _ _ _ _ _ _ _ _ _ _ _ _ _ _ _ _ _ _ _ _ _ _ _ _ _ _ _ _ _ _ _ _ _ _ _ _ _ _ _ _ _ _ _ _ _ _ _ _ _ _ _ _ _ _ _ _ _ _ _ _ _ _ _ _ _ _ _ _ _ _ _ _ _ _ _ _ _ _ _ _ _ _ _ _ _ _ _ _ _ _ _ _ _ _ _ _ _ _ _ _ _ _ _ _ _ _ _ _ _ _ _ _ _ _ _ _ _ _ _ _ _ _ _ _ _ _ _ _ _ _ _ _ _ ?_
            exact FIN.out
          · have hmx := KM11.out.all.max
            have hmx1 : (n : Int) ≤ (c : Int) := by have h1 := HN.out; have h2 := hmx.1; omega
            have hmx2 : n ≤ c := by omega
            clear hmx hrow
            go_wp2_with fail
            refine HK.out _ _ _ _ _ _ _ _ _ _ _ _ _ _ _ _ _ _ _ _ _ _ _ _ _ _ _ _ _ _ _ _ _ _ _ _ _ _ _ _ _ _ _ _ _ _ _ _ _ _ _ _ _ _ _ _ _ _ _ _ _ _ _ _ _ _ _ _ _ _ _ _ _ _ _ _ _ _ _ _ _ _ _ _ _ _ _ _ _ _ _ _ _ _ _ _ _ _ _ _ _ _ _ _ _ _ _ _ _ _ _ _ _ _ _ _ _ _ _ _ _ _ _ _ _ _ _ _ _ _ _ _ _ _ _ _ _ _ _ _ _ _ _ _ _ _ _ _ _ _ _ _ _ _ _ _ _ _ _ _ _ _ _ _ _ _ _ _ _ _ _ _ _ _ _ _ _ _ _ _ _ _ _ _ _ _ _ _ _ _ _ _ _ _ _ _ _ _ _ _ _ _ _ _ _ _ _ _ _ _ _ _ _ _ _ _ _ _ ?_
            exact FIN.out
end Go.Proofs.YtfheikmjjijdpaaDoor

