/-
  TopLaid: the loop over the boards of a row.
-/
import Derived.Test.YtenpiinkbfancaaTw4
import Derived.Test.YtenpiinkbfancaaPb4
namespace Go.Proofs.Ytenpiinkbfancaa.Pa
open Go.RowKit
set_option linter.unusedSimpArgs false
set_option linter.unusedVariables false

attribute [local go_sem] Oper.semAt_some
def loopIn (n : Nat) : Code → Option Code
  | .seq a b => (loopIn n a).or (loopIn n b)
  | .cond _ a b => (loopIn n a).or (loopIn n b)
  | .block m a => if m = n then some a else loopIn n a
  | .loop a => loopIn n a
  | .scope a => loopIn n a
  | _ => none
def bodyOf (f : Func) : Code := match f.body with
  | some c => c
  | none => .skip
set_option maxRecDepth 100000 in
set_option maxHeartbeats 16000000 in
theorem loop10 {u0 u1 u2 u3 u4 u7 u8 u9 u10 u12 u13 u14 u15 u16 u17 u18 u19 u20 u21 u22 u23 u25 u28 u31 u32 u34 u35 u36 u37 u38 u39 u40 u41 u42 u43 u44 u45 u46 u47 u48 u49 u50 u51 u52 u53 u54 u55 u56 u57 u58 u59 u60 u61 u62 u63 u64 u65 u66 u67 u68 u69 u70 u71 u72 u73 u74 u75 u76 u77 u78 u79 u80 u81 u82 u83 u84 u85 u86 u87 u88 u89 u90 u91 u92 u93 u94 u95 u96 u97 u98 u99 u100 u101 u102 u103 u104 u105 u106 u107 u108 u109 u110 u111 u112 u113 u114 u115 u116 u117 u118 u119 u120 u121 u122 u123 u124 u125 u126 u127 u128 u129 u130 u131 u132 u133 u134 u135 u136 u137 u138 u139 u140 u141 u142 u143 u144 u145 u146 u147 u148 u149 u150 u151 u152 u153 u154 u155 u156 u157 u158 u159 u160 u161 u162 u163 u164 u165 u166 u167 u168 u169 u170 u171 u172 u173 u174 u175 u176 u177 u178 u179 u180 u181 u182 u183 u184 u185 u186 u187 u188 u189 u190 u191 u192 u193 u194 u195 u196 u197 u198 u199 u200 u201 u202 u203 u204 u205 u206 u207 u208 u209 u210 u211 u212 u213 u214 u215 u216 u217 u218 u219 u220 u221 u222 u223 u224 u225 u226 u227 u228 u229 u230 u231 u232 u233 u234 u235 u236 u237 u238 u239 u240 u241 u242 u243 u244 u245 u246 u247 u248 u249 u250 u251 u252 u253 u254 u255 u256 u257 u258 u259 u260 u261 u262 u263 u264 u265 u266 u267 u268 u269 u270 u271 u272 u273 u274 u275 u276 u277 u278 u279 u280 u281 u282 u283 u284 u285 u286 u287 u288 u289 u290 u291 u292 u293 u294 u295 u296 u297 u298 u299 u300 u301 u302 u303 u304 u305 u306 u307 u308 u309 u310 u311 u312 u313 u314 u315 u316 u317 u318 u319 u320 u321 u322 u323 u324 u325 u326 u327 u328 u329 u330 u331 u332 u333 u334 u335 u336 u337 u338 u339 u340 u341 u342 u343 u344 u345 u346 u347 u348 u349 u350 u351 u352 u353 u354 u355 s6 : Value} {c : Code} {Q : Exit → Act → World → Prop} {l : Ln} {s : Int × Int} {X PP LL DD : List (List Int)} {nb nr r q0 gx bp op cq ba oa ca8 bd od cd8 bx ox cx cu cr ce cg cf : Nat} {Ar Ae Ag Af Au : Option Addr} {us : List St} {wq : World}
    (hc : loopIn 10 (bodyOf Try.f5) = some c) (hla : LaidF l s nb nr X PP LL DD) (h1 : r < nr) (hnb : (nb : Int) = l.nb) (a0 : wq.cell? ⟨q0, 0, none⟩ = some (.int .i64 l.nb)) (g0 : wq.cell? ⟨gx, 0, none⟩ = some (.slice (some ⟨bx, ox, none⟩) nr cx))
    (er : wq.cell? ⟨bp, op + r, none⟩ = some (.slice Ar nb cr)) (ee : wq.cell? ⟨bd, od + r, none⟩ = some (.slice Ae nb ce)) (eg : wq.cell? ⟨ba, oa + r, none⟩ = some (.slice Ag nb cg)) (ef : wq.cell? ⟨bx, ox + r, none⟩ = some (.slice Af nb cf))
    (ir : Ints wq.heap.size wq Ar (rx PP r)) (ie : Ints wq.heap.size wq Ae (rx DD r)) (ig : Ints wq.heap.size wq Ag (rx LL r)) (if_ : Ints wq.heap.size wq Af (rx X r)) (hru : Recs 2 wq.heap.size wq Au (us.map recS)) (hcan : ∀ v, Can l s r v → ∃ x ∈ us, x.1 = v) (hcu : us.length ≤ cu ∧ cu ≤ 9223372036854775807) (hb12 : nb ≤ 12)
    (hQ : ∀ (v10 v33 v34 v35 v278 v279 v280 v281 v282 v283 v284 v285 v286 v287 v288 v289 v290 v291 v292 v293 v294 v295 v296 v297 v298 v299 v300 v301 v302 v303 v304 v305 v306 v307 v308 v309 v310 v311 v312 v313 v314 v315 v316 v317 v318 v319 v320 v321 v322 v323 v324 v325 v326 v327 v328 v329 v330 v331 v332 v333 v334 v335 v336 v337 v338 v339 v340 v341 v342 v343 v344 v345 v346 v347 v348 v349 v350 v351 v352 v353 v354 : Value) (n : Nat), Q (.exit 10) { tmps := (u0 :: u1 :: u2 :: u3 :: u4 :: (.pointer (some ⟨q0, 0, none⟩)) :: s6 :: u7 :: u8 :: u9 :: v10 :: (.pointer (some ⟨gx, 0, none⟩)) :: u12 :: u13 :: u14 :: u15 :: u16 :: u17 :: u18 :: u19 :: u20 :: u21 :: u22 :: u23 :: (.slice (some ⟨bp, op, none⟩) nr cq) :: u25 :: (.slice (some ⟨ba, oa, none⟩) nr ca8) :: (.slice (some ⟨bd, od, none⟩) nr cd8) :: u28 :: (.int .i64 (r : Int)) :: (.slice Au us.length cu) :: u31 :: u32 :: v33 :: v34 :: v35 :: u36 :: u37 :: u38 :: u39 :: u40 :: u41 :: u42 :: u43 :: u44 :: u45 :: u46 :: u47 :: u48 :: u49 :: u50 :: u51 :: u52 :: u53 :: u54 :: u55 :: u56 :: u57 :: u58 :: u59 :: u60 :: u61 :: u62 :: u63 :: u64 :: u65 :: u66 :: u67 :: u68 :: u69 :: u70 :: u71 :: u72 :: u73 :: u74 :: u75 :: u76 :: u77 :: u78 :: u79 :: u80 :: u81 :: u82 :: u83 :: u84 :: u85 :: u86 :: u87 :: u88 :: u89 :: u90 :: u91 :: u92 :: u93 :: u94 :: u95 :: u96 :: u97 :: u98 :: u99 :: u100 :: u101 :: u102 :: u103 :: u104 :: u105 :: u106 :: u107 :: u108 :: u109 :: u110 :: u111 :: u112 :: u113 :: u114 :: u115 :: u116 :: u117 :: u118 :: u119 :: u120 :: u121 :: u122 :: u123 :: u124 :: u125 :: u126 :: u127 :: u128 :: u129 :: u130 :: u131 :: u132 :: u133 :: u134 :: u135 :: u136 :: u137 :: u138 :: u139 :: u140 :: u141 :: u142 :: u143 :: u144 :: u145 :: u146 :: u147 :: u148 :: u149 :: u150 :: u151 :: u152 :: u153 :: u154 :: u155 :: u156 :: u157 :: u158 :: u159 :: u160 :: u161 :: u162 :: u163 :: u164 :: u165 :: u166 :: u167 :: u168 :: u169 :: u170 :: u171 :: u172 :: u173 :: u174 :: u175 :: u176 :: u177 :: u178 :: u179 :: u180 :: u181 :: u182 :: u183 :: u184 :: u185 :: u186 :: u187 :: u188 :: u189 :: u190 :: u191 :: u192 :: u193 :: u194 :: u195 :: u196 :: u197 :: u198 :: u199 :: u200 :: u201 :: u202 :: u203 :: u204 :: u205 :: u206 :: u207 :: u208 :: u209 :: u210 :: u211 :: u212 :: u213 :: u214 :: u215 :: u216 :: u217 :: u218 :: u219 :: u220 :: u221 :: u222 :: u223 :: u224 :: u225 :: u226 :: u227 :: u228 :: u229 :: u230 :: u231 :: u232 :: u233 :: u234 :: u235 :: u236 :: u237 :: u238 :: u239 :: u240 :: u241 :: u242 :: u243 :: u244 :: u245 :: u246 :: u247 :: u248 :: u249 :: u250 :: u251 :: u252 :: u253 :: u254 :: u255 :: u256 :: u257 :: u258 :: u259 :: u260 :: u261 :: u262 :: u263 :: u264 :: u265 :: u266 :: u267 :: u268 :: u269 :: u270 :: u271 :: u272 :: u273 :: u274 :: u275 :: u276 :: u277 :: v278 :: v279 :: v280 :: v281 :: v282 :: v283 :: v284 :: v285 :: v286 :: v287 :: v288 :: v289 :: v290 :: v291 :: v292 :: v293 :: v294 :: v295 :: v296 :: v297 :: v298 :: v299 :: v300 :: v301 :: v302 :: v303 :: v304 :: v305 :: v306 :: v307 :: v308 :: v309 :: v310 :: v311 :: v312 :: v313 :: v314 :: v315 :: v316 :: v317 :: v318 :: v319 :: v320 :: v321 :: v322 :: v323 :: v324 :: v325 :: v326 :: v327 :: v328 :: v329 :: v330 :: v331 :: v332 :: v333 :: v334 :: v335 :: v336 :: v337 :: v338 :: v339 :: v340 :: v341 :: v342 :: v343 :: v344 :: v345 :: v346 :: v347 :: v348 :: v349 :: v350 :: v351 :: v352 :: v353 :: v354 :: u355 :: [] : List Value).toArray, defers := [] } (wq.drewN n)) :
    c.wp Try.prog Q { tmps := (u0 :: u1 :: u2 :: u3 :: u4 :: (.pointer (some ⟨q0, 0, none⟩)) :: s6 :: u7 :: u8 :: u9 :: u10 :: (.pointer (some ⟨gx, 0, none⟩)) :: u12 :: u13 :: u14 :: u15 :: u16 :: u17 :: u18 :: u19 :: u20 :: u21 :: u22 :: u23 :: (.slice (some ⟨bp, op, none⟩) nr cq) :: u25 :: (.slice (some ⟨ba, oa, none⟩) nr ca8) :: (.slice (some ⟨bd, od, none⟩) nr cd8) :: u28 :: (.int .i64 (r : Int)) :: (.slice Au us.length cu) :: u31 :: u32 :: (.int .i64 0) :: u34 :: u35 :: u36 :: u37 :: u38 :: u39 :: u40 :: u41 :: u42 :: u43 :: u44 :: u45 :: u46 :: u47 :: u48 :: u49 :: u50 :: u51 :: u52 :: u53 :: u54 :: u55 :: u56 :: u57 :: u58 :: u59 :: u60 :: u61 :: u62 :: u63 :: u64 :: u65 :: u66 :: u67 :: u68 :: u69 :: u70 :: u71 :: u72 :: u73 :: u74 :: u75 :: u76 :: u77 :: u78 :: u79 :: u80 :: u81 :: u82 :: u83 :: u84 :: u85 :: u86 :: u87 :: u88 :: u89 :: u90 :: u91 :: u92 :: u93 :: u94 :: u95 :: u96 :: u97 :: u98 :: u99 :: u100 :: u101 :: u102 :: u103 :: u104 :: u105 :: u106 :: u107 :: u108 :: u109 :: u110 :: u111 :: u112 :: u113 :: u114 :: u115 :: u116 :: u117 :: u118 :: u119 :: u120 :: u121 :: u122 :: u123 :: u124 :: u125 :: u126 :: u127 :: u128 :: u129 :: u130 :: u131 :: u132 :: u133 :: u134 :: u135 :: u136 :: u137 :: u138 :: u139 :: u140 :: u141 :: u142 :: u143 :: u144 :: u145 :: u146 :: u147 :: u148 :: u149 :: u150 :: u151 :: u152 :: u153 :: u154 :: u155 :: u156 :: u157 :: u158 :: u159 :: u160 :: u161 :: u162 :: u163 :: u164 :: u165 :: u166 :: u167 :: u168 :: u169 :: u170 :: u171 :: u172 :: u173 :: u174 :: u175 :: u176 :: u177 :: u178 :: u179 :: u180 :: u181 :: u182 :: u183 :: u184 :: u185 :: u186 :: u187 :: u188 :: u189 :: u190 :: u191 :: u192 :: u193 :: u194 :: u195 :: u196 :: u197 :: u198 :: u199 :: u200 :: u201 :: u202 :: u203 :: u204 :: u205 :: u206 :: u207 :: u208 :: u209 :: u210 :: u211 :: u212 :: u213 :: u214 :: u215 :: u216 :: u217 :: u218 :: u219 :: u220 :: u221 :: u222 :: u223 :: u224 :: u225 :: u226 :: u227 :: u228 :: u229 :: u230 :: u231 :: u232 :: u233 :: u234 :: u235 :: u236 :: u237 :: u238 :: u239 :: u240 :: u241 :: u242 :: u243 :: u244 :: u245 :: u246 :: u247 :: u248 :: u249 :: u250 :: u251 :: u252 :: u253 :: u254 :: u255 :: u256 :: u257 :: u258 :: u259 :: u260 :: u261 :: u262 :: u263 :: u264 :: u265 :: u266 :: u267 :: u268 :: u269 :: u270 :: u271 :: u272 :: u273 :: u274 :: u275 :: u276 :: u277 :: u278 :: u279 :: u280 :: u281 :: u282 :: u283 :: u284 :: u285 :: u286 :: u287 :: u288 :: u289 :: u290 :: u291 :: u292 :: u293 :: u294 :: u295 :: u296 :: u297 :: u298 :: u299 :: u300 :: u301 :: u302 :: u303 :: u304 :: u305 :: u306 :: u307 :: u308 :: u309 :: u310 :: u311 :: u312 :: u313 :: u314 :: u315 :: u316 :: u317 :: u318 :: u319 :: u320 :: u321 :: u322 :: u323 :: u324 :: u325 :: u326 :: u327 :: u328 :: u329 :: u330 :: u331 :: u332 :: u333 :: u334 :: u335 :: u336 :: u337 :: u338 :: u339 :: u340 :: u341 :: u342 :: u343 :: u344 :: u345 :: u346 :: u347 :: u348 :: u349 :: u350 :: u351 :: u352 :: u353 :: u354 :: u355 :: [] : List Value).toArray, defers := [] } wq := by
  simp only [bodyOf, Try.f5, loopIn, Option.or, Nat.reduceEqDiff, if_true, if_false, Option.some.injEq, reduceIte] at hc
  subst hc
  have HLA := Lib.hid hla
  have HNB := Lib.hid hnb
  have IR := Lib.hid ir
  have IE := Lib.hid ie
  have IG := Lib.hid ig
  have IF := Lib.hid if_
  have Hhru := Lib.hid hru
  have HCAN := Lib.hid hcan
  have HQ := Lib.hid hQ
  have hri : (r : Int) < (nr : Int) := by omega
  have hr0 : (0 : Int) ≤ (r : Int) := by omega
  clear hla hnb ir ie ig if_ hru hcan hQ
  go_loopw [33] (fun i wr => ∃ b n : Nat, b ≤ nb ∧ i = .int .i64 (b : Int) ∧ wr = wq.drewN n) (fun i _ => nb - (intOf i).toNat)
  case atStart => exact ⟨0, 0, by omega, rfl, rfl⟩
  case round =>
    obtain ⟨b, n, hb, rfl, rfl⟩ := hrel
    by_cases h2 : b < nb
    · have h2' : ((b : Nat) : Int) < l.nb := by have := HNB.out; omega
      go_wp2_with fail
      go_loopw [35, 34] (fun i v wr => ∃ j : Nat, j ≤ us.length ∧ i = .int .i64 (j : Int) ∧ v = .bool (overB' us b j) ∧ wr = wq.drewN n) (fun i _ _ => us.length - (intOf i).toNat)
      case atStart => exact ⟨0, by omega, rfl, by rw [overB_zero], rfl⟩
      case round =>
        obtain ⟨j, hj, rfl, rfl, rfl⟩ := hrel
        by_cases hju : j < us.length
        · have hju' : ((j : Nat) : Int) < (us.length : Int) := by omega
          have HOS := Lib.hid (overB_succ us b hju)
          obtain ⟨bU, oU, rfl, hbU, cU, -⟩ := Hhru.out.at2 (n := j) (by rw [List.length_map]; exact hju)
          rw [rx_recS hju] at cU
          have hub := us[j].2
          obtain ⟨y, hy⟩ : ∃ y, y = us[j].1.1 := ⟨_, rfl⟩
          have cU2 : wq.cell? ⟨bU, oU + j * 2, none⟩ = some (.int .i64 y) := by rw [cU, hy]; rfl
          rw [← hy] at HOS
          have z1 : IntKind.i64.wrap (y - 1) = y - 1 := by have := hub.1; rw [← hy] at this; exact IntWalk.i64_in _ (by omega)
          have hj0 : (0 : Int) ≤ (j : Int) := by omega
          generalize overB' us b j = of at *
          clear cU hy hub
          cases of
          · go_wp2_with fail
            go_roundw
            case rel => exact ⟨j + 1, by omega, by go_num, by rw [HOS.out]; simp, by first | rfl | trivial⟩
            case measure => simp [intOf]; omega
          · go_wp2_with fail
            go_roundw
            case rel => exact ⟨j + 1, by omega, by go_num, by rw [HOS.out]; rfl, by first | rfl | trivial⟩
            case measure => simp [intOf]; omega
        · have hje : us.length = j := by omega
          have hju' : ¬ (((j : Nat) : Int) < (us.length : Int)) := by omega
          have HNO : Hid (overB' us b j = false → ix (rx PP r) b = ix (rx X r) b) := by
            rw [← hje]
            exact fun h => HLA.out.no r b h1 h2 (over_none HCAN.out (overB_all h))
          clear hje
          obtain ⟨q1, q2⟩ := HLA.out.bd r b h1 h2
          obtain ⟨b2, o2, rfl, _, e2⟩ := IR.out.at_ (k := b) (by have := HLA.out.pr r h1; omega)
          obtain ⟨b3, o3, rfl, _, e3⟩ := IG.out.at_ (k := b) (by have := HLA.out.lr r h1; omega)
          obtain ⟨b5, o5, rfl, _, e5⟩ := IE.out.at_ (k := b) (by have := HLA.out.dr r h1; omega)
          obtain ⟨b6, o6, rfl, _, e6⟩ := IF.out.at_ (k := b) (by have := HLA.out.xr r h1; omega)
          generalize ix (rx PP r) b = vp at *
          generalize ix (rx LL r) b = vl at *
          generalize ix (rx DD r) b = vd at *
          generalize ix (rx X r) b = vx at *
          have u1 : decide (vp < vl) = false := by simp; omega
          have u2 : decide (vd < vp) = false := by simp; omega
          clear q1 q2
          have hbi : (b : Int) < (nb : Int) := by omega
          have hb0 : (0 : Int) ≤ (b : Int) := by omega
          generalize overB' us b j = of at *
          cases of
          · have hpx := HNO.out rfl
            have u3 : (vp != vx) = false := by rw [hpx]; simp
            clear hpx HNO
            go_wp2_with fail
            go_quiet (fail)
            go_wp2_with fail
            go_roundw
            case rel => exact ⟨b + 1, _, by omega, by go_num, rfl⟩
            case measure => simp [intOf]; omega
          · go_wp2_with fail
            go_quiet (fail)
            go_wp2_with fail
            go_roundw
            case rel => exact ⟨b + 1, _, by omega, by go_num, rfl⟩
            case measure => simp [intOf]; omega
    · have h2' : ¬ (((b : Nat) : Int) < l.nb) := by have := HNB.out; omega
      go_wp2_with fail
      apply HQ.out
end Go.Proofs.Ytenpiinkbfancaa.Pa
