/- Walk of AgentAdds, its last part: subscribers, Gets and Carrier; a lemma of its own; conditions: as it says. -/
import Derived.Test.YtgopdfbmddkpfaaX1
set_option linter.unusedSimpArgs false
set_option linter.unusedVariables false
namespace Go.Proofs.Ytgopdfbmddkpfaa
open Go.RowKit Go.Fh Go.Ag
/-- what follows the region with a number in its sequence -/
def findRest (n : Nat) : Code → Option Code
  | .seq a b => (match a with | .region m _ _ => if m = n then some b else none | _ => none).or ((findRest n a).or (findRest n b))
  | .cond _ a b => (findRest n a).or (findRest n b)
  | .block _ c => findRest n c
  | .loop c => findRest n c
  | .scope c => findRest n c
  | .rangeFunc _ _ a b => (findRest n a).or (findRest n b)
  | _ => none
noncomputable def adds27 : Code := (Try.f8.body.bind (findReg 27)).getD .skip
noncomputable def adds27r : Code := (Try.f8.body.bind (findRest 27)).getD .skip

set_option maxRecDepth 1000000 in
set_option maxHeartbeats 8000000 in
theorem adds27_wp (haw : ∀ w, Calls Try.prog 15 #[] w fun e w' => e = .returned (.bool true) ∧ Below w.heap.size w w') (M : Option Addr) (cm : Nat) (ms : List Int) (price bk lt at_ day : Int) (gT : Nat) (w wc : World) (t : TariffD)
    (hl3 : ms.length ≤ 9223372036854775807) (hb3 : ∀ n ∈ ms, 0 ≤ n ∧ n ≤ 255) (hM : Sl encB 1 w w.heap.size M ms)
    (h4 : 0 ≤ at_) (h4' : at_ ≤ 255) (h5 : 0 ≤ day) (h5' : day ≤ 255) (hwt : wrongT t = false) (htar : tarV t = #[.int .i64 (100 + price), .int .i64 bk, .int .i64 lt, .int .i64 3, .int .i64 7]) (e4 : t.carry = 3) (e5 : t.credit = 7)
    (hkT : Blk wc gT 36 #[.int .i64 (100 + price), .int .i64 bk, .int .i64 lt, .int .i64 3, .int .i64 7]) (hwc : Below w.heap.size w wc)
    (K : Act → World → Prop) (hK : ∀ a w', Code.wp Try.prog adds27r (bodyPost Try.prog Try.f8 fun e w' => e = .returned (.bool true) ∧ Below w.heap.size w w') a w' → K a w')
    (u0 u1 u3 u4 u5 u8 u9 u10 u11 u12 u13 u14 u15 u16 u17 u19 u20 u21 u22 u23 u24 u25 u26 u27 u28 u29 u30 u31 u32 u33 u34 u35 u36 u37 u38 u39 u40 u41 u42 u43 u44 u45 u46 u47 u48 u49 u50 u51 u52 u53 u54 u55 u56 u57 u58 u59 u60 u61 u62 u63 u64 u65 u66 u67 u68 u69 u70 u71 u72 u73 u74 u75 u76 u77 u78 u79 u80 u81 u82 u83 u84 u85 u86 u87 u88 u89 u90 u91 u92 u93 u94 u95 u96 u97 u98 u99 u100 u101 u102 u103 u104 u105 u106 u107 u108 u109 u110 u111 u112 u113 u114 u115 u116 u117 u118 u119 u120 u121 u122 u123 u124 u125 u126 u127 u128 u129 u130 u131 u132 u133 u134 u135 u136 u137 u138 u139 u140 u141 u142 u143 u144 u145 u146 u147 u148 u149 u150 u151 u152 u153 u154 u155 u156 u157 u158 u159 u160 u161 u162 u163 u164 u165 u166 u167 u168 u169 u170 u171 u172 u173 u174 u175 u176 u177 u178 u179 u180 u181 u182 u183 u184 u185 u186 u187 u188 u189 u190 u191 u192 u193 u194 u195 u196 u197 u198 u199 u200 u201 u202 u203 u204 u205 u206 u207 u208 u209 u210 u211 u212 u213 u214 u215 u216 u217 u218 u219 u220 u221 u222 u223 u224 u225 u226 u227 u228 u229 u230 u231 u232 u233 u234 u235 u236 u237 u238 u239 u240 u241 u242 u243 u244 u245 u246 u247 u248 u249 u250 u251 u252 u253 u254 u255 u256 u257 u258 u259 u260 u261 u262 u263 u264 u265 u266 u267 u268 u269 u270 u271 u272 u273 u274 u275 u276 u277 u278 u279 u280 u281 u282 u283 u284 u285 u286 u287 u288 u289 u290 u291 u292 u293 u294 u295 u296 u297 u298 u299 u300 u301 : Value) :
    Code.wp Try.prog adds27 (Exit.then K (bodyPost Try.prog Try.f8 fun e w' => e = .returned (.bool true) ∧ Below w.heap.size w w')) ⟨(List.toArray (u0 :: u1 :: .slice M ms.length cm :: u3 :: u4 :: u5 :: .int .u8 at_ :: .int .u8 day :: u8 :: u9 :: u10 :: u11 :: u12 :: u13 :: u14 :: u15 :: u16 :: u17 :: .pointer (some ⟨gT, 0, none⟩) :: u19 :: u20 :: u21 :: u22 :: u23 :: u24 :: u25 :: u26 :: u27 :: u28 :: u29 :: u30 :: u31 :: u32 :: u33 :: u34 :: u35 :: u36 :: u37 :: u38 :: u39 :: u40 :: u41 :: u42 :: u43 :: u44 :: u45 :: u46 :: u47 :: u48 :: u49 :: u50 :: u51 :: u52 :: u53 :: u54 :: u55 :: u56 :: u57 :: u58 :: u59 :: u60 :: u61 :: u62 :: u63 :: u64 :: u65 :: u66 :: u67 :: u68 :: u69 :: u70 :: u71 :: u72 :: u73 :: u74 :: u75 :: u76 :: u77 :: u78 :: u79 :: u80 :: u81 :: u82 :: u83 :: u84 :: u85 :: u86 :: u87 :: u88 :: u89 :: u90 :: u91 :: u92 :: u93 :: u94 :: u95 :: u96 :: u97 :: u98 :: u99 :: u100 :: u101 :: u102 :: u103 :: u104 :: u105 :: u106 :: u107 :: u108 :: u109 :: u110 :: u111 :: u112 :: u113 :: u114 :: u115 :: u116 :: u117 :: u118 :: u119 :: u120 :: u121 :: u122 :: u123 :: u124 :: u125 :: u126 :: u127 :: u128 :: u129 :: u130 :: u131 :: u132 :: u133 :: u134 :: u135 :: u136 :: u137 :: u138 :: u139 :: u140 :: u141 :: u142 :: u143 :: u144 :: u145 :: u146 :: u147 :: u148 :: u149 :: u150 :: u151 :: u152 :: u153 :: u154 :: u155 :: u156 :: u157 :: u158 :: u159 :: u160 :: u161 :: u162 :: u163 :: u164 :: u165 :: u166 :: u167 :: u168 :: u169 :: u170 :: u171 :: u172 :: u173 :: u174 :: u175 :: u176 :: u177 :: u178 :: u179 :: u180 :: u181 :: u182 :: u183 :: u184 :: u185 :: u186 :: u187 :: u188 :: u189 :: u190 :: u191 :: u192 :: u193 :: u194 :: u195 :: u196 :: u197 :: u198 :: u199 :: u200 :: u201 :: u202 :: u203 :: u204 :: u205 :: u206 :: u207 :: u208 :: u209 :: u210 :: u211 :: u212 :: u213 :: u214 :: u215 :: u216 :: u217 :: u218 :: u219 :: u220 :: u221 :: u222 :: u223 :: u224 :: u225 :: u226 :: u227 :: u228 :: u229 :: u230 :: u231 :: u232 :: u233 :: u234 :: u235 :: u236 :: u237 :: u238 :: u239 :: u240 :: u241 :: u242 :: u243 :: u244 :: u245 :: u246 :: u247 :: u248 :: u249 :: u250 :: u251 :: u252 :: u253 :: u254 :: u255 :: u256 :: u257 :: u258 :: u259 :: u260 :: u261 :: u262 :: u263 :: u264 :: u265 :: u266 :: u267 :: u268 :: u269 :: u270 :: u271 :: u272 :: u273 :: u274 :: u275 :: u276 :: u277 :: u278 :: u279 :: u280 :: u281 :: u282 :: u283 :: u284 :: u285 :: u286 :: u287 :: u288 :: u289 :: u290 :: u291 :: u292 :: u293 :: u294 :: u295 :: u296 :: u297 :: u298 :: u299 :: u300 :: u301 :: [])), []⟩ wc := by
  have HMS := Lib.hid hM
  have HBM := Lib.hid hb3
  have HWT := Lib.hid hwt
  have HTAR := Lib.hid htar
  have HWC := Lib.hid hwc
  have HKTC := Lib.hid hkT
  clear hM hb3 hwt htar hwc hkT
  conv at hK => enter [a, w']; arg 1; arg 2; whnf
  conv => arg 2; whnf
  go_wp2_with fail
  refine (subscribers_any M cm ms _ hl3 HBM.out ((HMS.out.below HWC.out).mono HWC.out.size)).mono ?_
  rintro e w7 ⟨lm, S, cS, rfl, hlm, hS, hSI, hb7⟩
  have hlen : lm.length ≤ 10 := by have h1 := (subD_len ms); rw [← h1.1, ← hlm] at h1; simpa using h1.2
  have hE0 := subD_listE ms
  have hoks := subD_ok ms
  rw [← hlm] at hE0 hoks
  have HS := Lib.hid hS
  have HSI := Lib.hid hSI
  have HE0 := Lib.hid hE0
  have HOKS := Lib.hid hoks
  have H7 := Lib.hid (HWC.out.trans (hb7.mono HWC.out.size))
  have hkT7 := Blk.below HKTC.out hb7 HKTC.out.lt
  have HKT7 := Lib.hid hkT7
  have j0 := hkT7.cell 0
  have j1 := hkT7.cell 1
  have j2 := hkT7.cell 2
  have j3 := hkT7.cell 3
  have j4 := hkT7.cell 4
  simp at j0 j1 j2 j3 j4
  clear hlm hS hSI hE0 hoks hb7 hkT7 HKTC HWC
  by_cases hz : lm.length = 0
  · have t1 : ((lm.length : Int) == 0) = true := by simp [hz]
    clear hz
    go_wp2_with fail
    refine (haw _).mono ?_
    rintro e w9 ⟨rfl, hb9⟩
    have hbb9 := H7.out.trans (hb9.mono H7.out.size)
    go_wp2_with fail
    go_ret
    exact ⟨rfl, hbb9⟩
  · have t1 : ((lm.length : Int) == 0) = false := by rw [beq_eq_false_iff_ne]; omega
    obtain ⟨i, hi⟩ : ∃ i : Nat, at_ % (lm.length : Int) = (i : Int) := ⟨(at_ % (lm.length : Int)).toNat, (Int.toNat_of_nonneg (Int.emod_nonneg at_ (show (lm.length : Int) ≠ 0 by omega))).symm⟩
    have hil : i < lm.length := by have h' := Int.emod_lt_of_pos at_ (show (0 : Int) < lm.length by omega); rw [hi] at h'; omega
    obtain ⟨d, hd⟩ : ∃ d, d = day % 100 := ⟨_, rfl⟩
    have d0 : 0 ≤ d := by omega
    have d1 : d < 100 := by omega
    obtain ⟨slb, so, rfl, hslb, s0, s1, s2, s3, s4⟩ := HS.out.at5 hil
    have hxo : OkS lm[i].1 := HOKS.out _ (List.mem_map.2 ⟨lm[i], List.getElem_mem hil, rfl⟩)
    have hxI := HSI.out _ (List.getElem_mem hil)
    have hgr : getsR lm[i].1 d = (getsB lm[i].1 d, 0) := by
      have h1 := (OkS_iff _).2 hxo
      have h2 : inB d 0 20000 = true := by rw [inB_iff]; omega
      simp [getsR, h1, h2]
    have hi2 : i < (lm.map Prod.fst).length := by simpa using hil
    have hwt := HWT.out
    have hc1 := carrier_none hwt HE0.out (a := 0) (b := 99) (by decide)
    have hc2 := carrier_one hwt HE0.out (a := 0) (b := 99) (by decide) hi2 (d := d) ⟨by omega, by omega⟩
    have eg : (lm.map Prod.fst)[i] = lm[i].1 := by simp
    rw [eg] at hc2
    have hXb := allC_bd (lm.map Prod.fst) 0 99
    have hxl : (lm.map Prod.fst).length ≤ 10 := by simpa using hlen
    have hcA := fun W h1 h2 => carrier_any t (some ⟨slb, so, none⟩) cS lm none 0 [] 0 99 W (by omega) (by simp) (fun x hx => by have := (HOKS.out _ (List.mem_map.2 ⟨x, hx, rfl⟩)).2.2.2.2.1; omega) h1 h2 Sl.nil
    obtain ⟨x, hx⟩ : ∃ x, x = lm[i] := ⟨_, rfl⟩
    rw [← hx] at s0 s1 s2 s3 s4 hxI hgr hc2
    have hcB := fun C W q1 q2 q3 => carrier_any t (some ⟨slb, so, none⟩) cS lm C 1 [(x.1.id, d)] 0 99 W (by omega) (by simp) (fun x hx => by have := (HOKS.out _ (List.mem_map.2 ⟨x, hx, rfl⟩)).2.2.2.2.1; omega) q1 q2 q3
    rw [hc1] at hcA
    rw [hc2] at hcB
    rw [HTAR.out, e4] at hcA
    rw [HTAR.out, e4, e5] at hcB
    obtain ⟨X, hX⟩ : ∃ X, X = allC (lm.map Prod.fst) 0 99 (lm.map Prod.fst).length := ⟨_, rfl⟩
    rw [← hX] at hcA hcB hXb
    have hXb1 : 0 ≤ X := hXb.1
    have hXb2 : X ≤ 100000 := by
      have := hXb.2
      have h99 : ((99 + 1 - 0 : Int)).toNat = 100 := by decide
      rw [h99] at this
      omega
    have hxo2 : x.1.hol.length ≤ 20 := by rw [hx]; exact hxo.2.2.2.2.1
    have hga := getsR_any x.1 x.2.1 x.2.2 d w7 (by omega) hxI
    rw [hgr] at hga
    have hA3 : ∀ W, Below w7.heap.size w7 W → Calls Try.prog 27 #[.agg #[.int .i64 (100 + price), .int .i64 bk, .int .i64 lt, .int .i64 3, .int .i64 7], .slice (some ⟨slb, so, none⟩) lm.length cS, .slice none 0 0, .int .i64 0, .int .i64 99] W fun e w' => ∃ A' c', e = .returned (.tuple #[.agg #[.slice A' 2 c', .int .i64 (X * 3)], .int .i64 0]) ∧ Below W.heap.size W w' := by
      intro W hW
      refine (hcA W ((HS.out.below hW).mono hW.size) (fun y hy => ((HSI.out y hy).below hW).mono hW.size)).mono ?_
      rintro e w' ⟨A', c', rfl, _, _, q2⟩
      exact ⟨A', c', rfl, q2⟩
    obtain ⟨sm, hsm⟩ : ∃ sm : Int, sm = (if getsB x.1 d = true then X * 3 - 7 else 0) := ⟨_, rfl⟩
    obtain ⟨er, her⟩ : ∃ er : Int, er = (if getsB x.1 d = true then 0 else 4) := ⟨_, rfl⟩
    have hB3 : ∀ C W, Below w7.heap.size w7 W → Sl enc2 2 W W.heap.size C [(x.1.id, d)] → Calls Try.prog 27 #[.agg #[.int .i64 (100 + price), .int .i64 bk, .int .i64 lt, .int .i64 3, .int .i64 7], .slice (some ⟨slb, so, none⟩) lm.length cS, .slice C 1 1, .int .i64 0, .int .i64 99] W fun e w' => ∃ (A' : Option Addr) (nl c' : Nat), e = .returned (.tuple #[.agg #[.slice A' nl c', .int .i64 sm], .int .i64 er]) ∧ Below W.heap.size W w' := by
      intro C W hW hC
      refine (hcB C W ((HS.out.below hW).mono hW.size) (fun y hy => ((HSI.out y hy).below hW).mono hW.size) hC).mono ?_
      rintro e w' ⟨A', c', rfl, _, _, q2⟩
      rw [hsm, her]
      cases getsB x.1 d
      · exact ⟨A', 0, c', rfl, q2⟩
      · exact ⟨A', 2, c', rfl, q2⟩
    have HSM := Lib.hid hsm
    have HER := Lib.hid her
    have HGA := Lib.hid hga
    have HA3 := Lib.hid hA3
    have HB3 := Lib.hid hB3
    have HI := Lib.hid hi
    have HD := Lib.hid hd
    have hslw : slb < w7.heap.size := hslb
    clear hsm her hga hA3 hB3 hcA hcB hc1 hc2 hgr hxo hxI hwt hXb hX hi hd hx eg HOKS HE0 HSI e4 e5
    go_upto_region 31 with fail
    rw [HI.out, ← HD.out]
    go_wp2_with fail
    refine HGA.out.mono ?_
    rintro e w8 ⟨rfl, hb8⟩
    have hkT8 := Blk.below HKT7.out hb8 HKT7.out.lt
    have r0 := hkT8.cell 0
    have r1 := hkT8.cell 1
    have r2 := hkT8.cell 2
    have r3 := hkT8.cell 3
    have r4 := hkT8.cell 4
    simp at r0 r1 r2 r3 r4
    have HKT8 := Lib.hid hkT8
    have H78 := Lib.hid hb8
    clear hkT8 hb8 j0 j1 j2 j3 j4
    go_wp2_with fail
    refine (HA3.out _ H78.out).mono ?_
    rintro e w9 ⟨A9, c9, rfl, hb9⟩
    obtain ⟨w10, hw10⟩ : ∃ W, W = w9.alloc (.cells #[.slice A9 2 c9, .int .i64 (X * 3)] 53) := ⟨_, rfl⟩
    obtain ⟨gP, hgP⟩ : ∃ g, g = w9.heap.size := ⟨_, rfl⟩
    have h8a : Below w8.heap.size w8 w10 := by rw [hw10]; exact hb9.alloc hb9.size _
    have hkP : Blk w10 gP 53 #[.slice A9 2 c9, .int .i64 (X * 3)] := by rw [hw10, hgP]; exact Blk.new _ _ _
    have hkTa := Blk.below HKT8.out h8a HKT8.out.lt
    have u0 := hkTa.cell 0
    have u1 := hkTa.cell 1
    have u2 := hkTa.cell 2
    have u3 := hkTa.cell 3
    have u4 := hkTa.cell 4
    simp at u0 u1 u2 u3 u4
    have h7a := H78.out.trans (h8a.mono H78.out.size)
    have z0 : w10.cell? ⟨slb, so + i * 5, none⟩ = some (.int .i64 x.1.id) := (h7a.cell (p := ⟨slb, so + i * 5, none⟩) hslw).trans s0
    have hgTw : gT < w10.heap.size := hkTa.lt
    have hsla : slb < w10.heap.size := by have := h7a.size; omega
    have HKP := Lib.hid hkP
    have H7A := Lib.hid h7a
    have HW10 := Lib.hid hw10
    have HGP := Lib.hid hgP
    clear hb9 h8a hkP hkTa h7a hw10 hgP r0 r1 r2 r3 r4 s0 s1 s2 s3 s4
    generalize hge : getsB x.1 d = gets at *
    clear hge
    go_upto_region 33 with fail
    rw [← HW10.out, ← HGP.out]
    go_cut [39, 40] (fun p q wx => (∃ (g nl c' : Nat) (A' : Option Addr), p = .pointer (some ⟨g, 0, none⟩) ∧ Blk wx g 53 #[.slice A' nl c', .int .i64 sm]) ∧ q = .int .i64 er ∧ Below w10.heap.size w10 wx)
    case first =>
      refine adds33_wp gT slb so lm.length cS i x.1.id d price bk lt sm er w7 w10 H7A.out HB3.out z0 u0 u1 u2 u3 u4 hil hgTw hsla _ _ _ _ _ _ _ _ _ _ _ _ _ _ _ _ _ _ _ _ _ _ _ _ _ _ _ _ _ _ _ _ _ _ _ _ _ _ _ _ _ _ _ _ _ _ _ _ _ _ _ _ _ _ _ _ _ _ _ _ _ _ _ _ _ _ _ _ _ _ _ _ _ _ _ _ _ _ _ _ _ _ _ _ _ _ _ _ _ _ _ _ _ _ _ _ _ _ _ _ _ _ _ _ _ _ _ _ _ _ _ _ _ _ _ _ _ _ _ _ _ _ _ _ _ _ _ _ _ _ _ _ _ _ _ _ _ _ _ _ _ _ _ _ _ _ _ _ _ _ _ _ _ _ _ _ _ _ _ _ _ _ _ _ _ _ _ _ _ _ _ _ _ _ _ _ _ _ _ _ _ _ _ _ _ _ _ _ _ _ _ _ _ _ _ _ _ _ _ _ _ _ _ _ _ _ _ _ _ _ _ _ _ _ _ _ _ _ _ _ _ _ _ _ _ _ _ _ _ _ _ _ _ _ _ _ _ _ _ _ _ _ _ _ _ _ _ _ _ _ _ _ _ _ _ _ _ _ _ _ _ _ _ _ _ _ _ _ _ _ _ _ _ _ _ _ _ _ _ _ _ _ _ _ _ _ _ _ _ _ _ _ _ _ _ _ _ _ _ _ ?_
      intro g nl c' A' wx _ _ _ _ _ _ _ _ _ _ _ _ _ _ hk hb
      go_wp2
      go_meet
      exact ⟨⟨g, nl, c', A', rfl, hk⟩, rfl, hb⟩
    case rest =>
      obtain ⟨⟨g, nl, c', A', rfl, hkg⟩, rfl, hbc⟩ := hcut
      have hkPc := Blk.below HKP.out hbc HKP.out.lt
      have HFIN := Lib.hid (H7.out.trans ((H7A.out.trans (hbc.mono H7A.out.size)).mono H7.out.size))
      have n0 := hkg.cell 0
      have n1 := hkg.cell 1
      have n2 := hkPc.cell 0
      have n3 := hkPc.cell 1
      simp at n0 n1 n2 n3
      have f1 := IntWalk.i64_in (X * 3 - 7) (by omega)
      clear hkg hkPc hbc
      have e1 := HSM.out
      have e2 := HER.out
      clear HSM HER
      cases gets
      · simp only [Bool.false_eq_true, if_false] at e1 e2
        subst e1
        subst e2
        go_wp2_with fail
        refine (haw _).mono ?_
        rintro e w12 ⟨rfl, hb12⟩
        have hbb := HFIN.out.trans (hb12.mono HFIN.out.size)
        go_wp2_with fail
        go_ret
        exact ⟨rfl, hbb⟩
      · simp only [if_true] at e1 e2
        subst e1
        subst e2
        go_wp2_with fail
        refine (haw _).mono ?_
        rintro e w12 ⟨rfl, hb12⟩
        have hbb := HFIN.out.trans (hb12.mono HFIN.out.size)
        go_wp2_with fail
        go_ret
        exact ⟨rfl, hbb⟩
end Go.Proofs.Ytgopdfbmddkpfaa
