
/- The document's acceptor: Accept. -/
import Derived.Test.YtcokbljlgbcpkaaDoorAdG
import Derived.Test.YtcokbljlgbcpkaaDoorAdF
import Derived.Test.YtcokbljlgbcpkaaDoorAcD
namespace Go.Proofs.YtcokbljlgbcpkaaDoor
open Go.RowKit
set_option maxRecDepth 100000 in
set_option maxHeartbeats 2000000 in
theorem refAccept_no (r p ar ap k m n : Int) (s : ByteArray) (c sl x y k2 m2 n2 : Int) (s2 : ByteArray) (w : World) (hs : s2.size ≤ 9223372036854775807) (hm : (mayB c sl x y && entB k2 m2 n2 s2) = false) :
    Calls Tryd.prog 45 #[.agg #[.int .i64 c, .int .i64 sl, .int .i64 r, .int .i64 p, .int .i64 ar, .int .i64 ap, .int .i64 k, .int .i64 m, .int .i64 n, .string s], .agg #[.int .i64 x, .int .i64 y], .agg #[.int .i64 k2, .int .i64 m2, .int .i64 n2, .string s2]] w fun e w' =>
      e = .returned (.tuple #[.agg #[.int .i64 c, .int .i64 sl, .int .i64 r, .int .i64 p, .int .i64 ar, .int .i64 ap, .int .i64 k, .int .i64 m, .int .i64 n, .string s], .bool false, .int .i64 2]) ∧ Below w.heap.size w w' := by
  have cM := fun W => refMay_any c sl x y W
  cases h1 : mayB c sl x y
  · rw [h1] at cM
    clear hm h1
    go_enter Tryd.func45, Tryd.ntmps45
    go_upto_region 1 with fail
    obtain ⟨Xa, Xb, Xe, Xr, hb, hz⟩ := quad w 51 36 24 51 #[.int .i64 c, .int .i64 sl, .int .i64 r, .int .i64 p, .int .i64 ar, .int .i64 ap, .int .i64 k, .int .i64 m, .int .i64 n, .string s] #[.int .i64 x, .int .i64 y] #[.int .i64 k2, .int .i64 m2, .int .i64 n2, .string s2] #[.int .i64 0, .int .i64 0, .int .i64 0, .int .i64 0, .int .i64 0, .int .i64 0, .int .i64 0, .int .i64 0, .int .i64 0, .string ⟨#[]⟩]
    generalize (((w.alloc (.cells #[.int .i64 c, .int .i64 sl, .int .i64 r, .int .i64 p, .int .i64 ar, .int .i64 ap, .int .i64 k, .int .i64 m, .int .i64 n, .string s] 51)).alloc (.cells #[.int .i64 x, .int .i64 y] 36)).alloc (.cells #[.int .i64 k2, .int .i64 m2, .int .i64 n2, .string s2] 24)).alloc (.cells #[.int .i64 0, .int .i64 0, .int .i64 0, .int .i64 0, .int .i64 0, .int .i64 0, .int .i64 0, .int .i64 0, .int .i64 0, .string ⟨#[]⟩] 51) = W at *
    obtain ⟨B, hB⟩ : ∃ B, w.heap.size = B := ⟨_, rfl⟩
    rw [hB] at Xa Xb Xe Xr hz hb
    have ac0 := Xa.cell (j := 0) rfl
    have ac1 := Xa.cell (j := 1) rfl
    have bc0 := Xb.cell (j := 0) rfl
    have bc1 := Xb.cell (j := 1) rfl
    go_wp2_with fail
    refine (cM _).mono ?_
    rintro e w2 ⟨rfl, hb2⟩
    have Ya := Xa.step hb2
    have Yb := Xb.step hb2
    have Ye := Xe.step hb2
    have Yr := Xr.step hb2
    have hb3 := hb.trans (hb2.mono (by have := hb.size; omega))
    clear ac0 ac1 bc0 bc1 hb2 hb Xa Xb Xe Xr cM
    have ac0 := Ya.cell (j := 0) rfl
    have ac1 := Ya.cell (j := 1) rfl
    have ac2 := Ya.cell (j := 2) rfl
    have ac3 := Ya.cell (j := 3) rfl
    have ac4 := Ya.cell (j := 4) rfl
    have ac5 := Ya.cell (j := 5) rfl
    have ac6 := Ya.cell (j := 6) rfl
    have ac7 := Ya.cell (j := 7) rfl
    have ac8 := Ya.cell (j := 8) rfl
    have ac9 := Ya.cell (j := 9) rfl
    have rc0 := Yr.cell (j := 0) rfl
    have rc1 := Yr.cell (j := 1) rfl
    have rc2 := Yr.cell (j := 2) rfl
    have rc3 := Yr.cell (j := 3) rfl
    have rc4 := Yr.cell (j := 4) rfl
    have rc5 := Yr.cell (j := 5) rfl
    have rc6 := Yr.cell (j := 6) rfl
    have rc7 := Yr.cell (j := 7) rfl
    have rc8 := Yr.cell (j := 8) rfl
    have rc9 := Yr.cell (j := 9) rfl
    have rf0 := Yr.frozen 0
    have rf1 := Yr.frozen 1
    have rf2 := Yr.frozen 2
    have rf3 := Yr.frozen 3
    have rf4 := Yr.frozen 4
    have rf5 := Yr.frozen 5
    have rf6 := Yr.frozen 6
    have rf7 := Yr.frozen 7
    have rf8 := Yr.frozen 8
    have rf9 := Yr.frozen 9
    go_wp2
    (try simp only [Exit.inBlock, Exit.then])
    refine bodyPost_ret (v := .tuple #[.agg #[.int .i64 c, .int .i64 sl, .int .i64 r, .int .i64 p, .int .i64 ar, .int .i64 ap, .int .i64 k, .int .i64 m, .int .i64 n, .string s], .bool false, .int .i64 2]) ?_ rfl ⟨rfl, ?_⟩
    · rw [r_cell1tt rfl]
      go_simp
    · (try rw [hB])
      exact below10 (b := B + 1 + 1 + 1) hb3 (by omega) _ _ _ _ _ _ _ _ _ _
  · rw [h1] at cM hm
    have cE := fun W => ref14_any k2 m2 n2 s2 W hs
    rw [show entB k2 m2 n2 s2 = false by simpa using hm] at cE
    clear hm h1
    go_enter Tryd.func45, Tryd.ntmps45
    go_upto_region 1 with fail
    obtain ⟨Xa, Xb, Xe, Xr, hb, hz⟩ := quad w 51 36 24 51 #[.int .i64 c, .int .i64 sl, .int .i64 r, .int .i64 p, .int .i64 ar, .int .i64 ap, .int .i64 k, .int .i64 m, .int .i64 n, .string s] #[.int .i64 x, .int .i64 y] #[.int .i64 k2, .int .i64 m2, .int .i64 n2, .string s2] #[.int .i64 0, .int .i64 0, .int .i64 0, .int .i64 0, .int .i64 0, .int .i64 0, .int .i64 0, .int .i64 0, .int .i64 0, .string ⟨#[]⟩]
    generalize (((w.alloc (.cells #[.int .i64 c, .int .i64 sl, .int .i64 r, .int .i64 p, .int .i64 ar, .int .i64 ap, .int .i64 k, .int .i64 m, .int .i64 n, .string s] 51)).alloc (.cells #[.int .i64 x, .int .i64 y] 36)).alloc (.cells #[.int .i64 k2, .int .i64 m2, .int .i64 n2, .string s2] 24)).alloc (.cells #[.int .i64 0, .int .i64 0, .int .i64 0, .int .i64 0, .int .i64 0, .int .i64 0, .int .i64 0, .int .i64 0, .int .i64 0, .string ⟨#[]⟩] 51) = W at *
    obtain ⟨B, hB⟩ : ∃ B, w.heap.size = B := ⟨_, rfl⟩
    rw [hB] at Xa Xb Xe Xr hz hb
    have ac0 := Xa.cell (j := 0) rfl
    have ac1 := Xa.cell (j := 1) rfl
    have bc0 := Xb.cell (j := 0) rfl
    have bc1 := Xb.cell (j := 1) rfl
    go_wp2_with fail
    refine (cM _).mono ?_
    rintro e w2 ⟨rfl, hb2⟩
    have Ya := Xa.step hb2
    have Yb := Xb.step hb2
    have Ye := Xe.step hb2
    have Yr := Xr.step hb2
    have hb3 := hb.trans (hb2.mono (by have := hb.size; omega))
    clear ac0 ac1 bc0 bc1 hb2 hb Xa Xb Xe Xr cM
    have ec0 := Ye.cell (j := 0) rfl
    have ec1 := Ye.cell (j := 1) rfl
    have ec2 := Ye.cell (j := 2) rfl
    have ec3 := Ye.cell (j := 3) rfl
    go_wp2_with fail
    refine (cE _).mono ?_
    rintro e w3 ⟨rfl, hb2⟩
    have Za := Ya.step hb2
    have Zb := Yb.step hb2
    have Ze := Ye.step hb2
    have Zr := Yr.step hb2
    have hb4 := hb3.trans (hb2.mono (by have := hb3.size; omega))
    clear ec0 ec1 ec2 ec3 hb2 hb3 Ya Yb Ye Yr cE
    have ac0 := Za.cell (j := 0) rfl
    have ac1 := Za.cell (j := 1) rfl
    have ac2 := Za.cell (j := 2) rfl
    have ac3 := Za.cell (j := 3) rfl
    have ac4 := Za.cell (j := 4) rfl
    have ac5 := Za.cell (j := 5) rfl
    have ac6 := Za.cell (j := 6) rfl
    have ac7 := Za.cell (j := 7) rfl
    have ac8 := Za.cell (j := 8) rfl
    have ac9 := Za.cell (j := 9) rfl
    have rc0 := Zr.cell (j := 0) rfl
    have rc1 := Zr.cell (j := 1) rfl
    have rc2 := Zr.cell (j := 2) rfl
    have rc3 := Zr.cell (j := 3) rfl
    have rc4 := Zr.cell (j := 4) rfl
    have rc5 := Zr.cell (j := 5) rfl
    have rc6 := Zr.cell (j := 6) rfl
    have rc7 := Zr.cell (j := 7) rfl
    have rc8 := Zr.cell (j := 8) rfl
    have rc9 := Zr.cell (j := 9) rfl
    have rf0 := Zr.frozen 0
    have rf1 := Zr.frozen 1
    have rf2 := Zr.frozen 2
    have rf3 := Zr.frozen 3
    have rf4 := Zr.frozen 4
    have rf5 := Zr.frozen 5
    have rf6 := Zr.frozen 6
    have rf7 := Zr.frozen 7
    have rf8 := Zr.frozen 8
    have rf9 := Zr.frozen 9
    go_wp2
    (try simp only [Exit.inBlock, Exit.then])
    refine bodyPost_ret (v := .tuple #[.agg #[.int .i64 c, .int .i64 sl, .int .i64 r, .int .i64 p, .int .i64 ar, .int .i64 ap, .int .i64 k, .int .i64 m, .int .i64 n, .string s], .bool false, .int .i64 2]) ?_ rfl ⟨rfl, ?_⟩
    · rw [r_cell1tt rfl]
      go_simp
    · (try rw [hB])
      exact below10 (b := B + 1 + 1 + 1) hb4 (by omega) _ _ _ _ _ _ _ _ _ _
set_option maxRecDepth 100000 in
set_option maxHeartbeats 2000000 in
theorem refAccept_not (r p ar ap k m n : Int) (s : ByteArray) (c sl x y k2 m2 n2 : Int) (s2 : ByteArray) (w : World) (hs : s2.size ≤ 9223372036854775807) (hm : mayB c sl x y = true) (he : entB k2 m2 n2 s2 = true) (hl : lessB x y r p = true) :
    Calls Tryd.prog 45 #[.agg #[.int .i64 c, .int .i64 sl, .int .i64 r, .int .i64 p, .int .i64 ar, .int .i64 ap, .int .i64 k, .int .i64 m, .int .i64 n, .string s], .agg #[.int .i64 x, .int .i64 y], .agg #[.int .i64 k2, .int .i64 m2, .int .i64 n2, .string s2]] w fun e w' =>
      e = .returned (.tuple #[.agg #[.int .i64 c, .int .i64 sl, .int .i64 r, .int .i64 p, .int .i64 ar, .int .i64 ap, .int .i64 k, .int .i64 m, .int .i64 n, .string s], .bool false, .int .i64 0]) ∧ Below w.heap.size w w' := by
  have cM := fun W => refMay_any c sl x y W
  rw [hm] at cM
  have cE := fun W => ref14_any k2 m2 n2 s2 W hs
  rw [he] at cE
  have cL := fun W => refLess_at x y r p _ hl W
  clear hm he hl
  go_enter Tryd.func45, Tryd.ntmps45
  go_upto_region 1 with fail
  obtain ⟨Xa, Xb, Xe, Xr, hb, hz⟩ := quad w 51 36 24 51 #[.int .i64 c, .int .i64 sl, .int .i64 r, .int .i64 p, .int .i64 ar, .int .i64 ap, .int .i64 k, .int .i64 m, .int .i64 n, .string s] #[.int .i64 x, .int .i64 y] #[.int .i64 k2, .int .i64 m2, .int .i64 n2, .string s2] #[.int .i64 0, .int .i64 0, .int .i64 0, .int .i64 0, .int .i64 0, .int .i64 0, .int .i64 0, .int .i64 0, .int .i64 0, .string ⟨#[]⟩]
  generalize (((w.alloc (.cells #[.int .i64 c, .int .i64 sl, .int .i64 r, .int .i64 p, .int .i64 ar, .int .i64 ap, .int .i64 k, .int .i64 m, .int .i64 n, .string s] 51)).alloc (.cells #[.int .i64 x, .int .i64 y] 36)).alloc (.cells #[.int .i64 k2, .int .i64 m2, .int .i64 n2, .string s2] 24)).alloc (.cells #[.int .i64 0, .int .i64 0, .int .i64 0, .int .i64 0, .int .i64 0, .int .i64 0, .int .i64 0, .int .i64 0, .int .i64 0, .string ⟨#[]⟩] 51) = W at *
  obtain ⟨B, hB⟩ : ∃ B, w.heap.size = B := ⟨_, rfl⟩
  rw [hB] at Xa Xb Xe Xr hz hb
  have ac0 := Xa.cell (j := 0) rfl
  have ac1 := Xa.cell (j := 1) rfl
  have bc0 := Xb.cell (j := 0) rfl
  have bc1 := Xb.cell (j := 1) rfl
  go_wp2_with fail
  refine (cM _).mono ?_
  rintro e w2 ⟨rfl, hb2⟩
  have Ya := Xa.step hb2
  have Yb := Xb.step hb2
  have Ye := Xe.step hb2
  have Yr := Xr.step hb2
  have hb3 := hb.trans (hb2.mono (by have := hb.size; omega))
  clear ac0 ac1 bc0 bc1 hb2 hb Xa Xb Xe Xr cM
  have ec0 := Ye.cell (j := 0) rfl
  have ec1 := Ye.cell (j := 1) rfl
  have ec2 := Ye.cell (j := 2) rfl
  have ec3 := Ye.cell (j := 3) rfl
  go_wp2_with fail
  refine (cE _).mono ?_
  rintro e w3 ⟨rfl, hb2⟩
  have Za := Ya.step hb2
  have Zb := Yb.step hb2
  have Ze := Ye.step hb2
  have Zr := Yr.step hb2
  have hb4 := hb3.trans (hb2.mono (by have := hb3.size; omega))
  clear ec0 ec1 ec2 ec3 hb2 hb3 Ya Yb Ye Yr cE
  have ac0 := Za.cell (j := 0) rfl
  have ac1 := Za.cell (j := 1) rfl
  have ac2 := Za.cell (j := 2) rfl
  have ac3 := Za.cell (j := 3) rfl
  have ac4 := Za.cell (j := 4) rfl
  have ac5 := Za.cell (j := 5) rfl
  have ac6 := Za.cell (j := 6) rfl
  have ac7 := Za.cell (j := 7) rfl
  have ac8 := Za.cell (j := 8) rfl
  have ac9 := Za.cell (j := 9) rfl
  have bc0 := Zb.cell (j := 0) rfl
  have bc1 := Zb.cell (j := 1) rfl
  go_wp2_with fail
  refine (cL _).mono ?_
  rintro e w4 ⟨rfl, hb2⟩
  have Va := Za.step hb2
  have Vb := Zb.step hb2
  have Ve := Ze.step hb2
  have Vr := Zr.step hb2
  have hb5 := hb4.trans (hb2.mono (by have := hb4.size; omega))
  clear ac0 ac1 ac2 ac3 ac4 ac5 ac6 ac7 ac8 ac9 bc0 bc1 hb2 hb4 Za Zb Ze Zr cL
  have ac0 := Va.cell (j := 0) rfl
  have ac1 := Va.cell (j := 1) rfl
  have ac2 := Va.cell (j := 2) rfl
  have ac3 := Va.cell (j := 3) rfl
  have ac4 := Va.cell (j := 4) rfl
  have ac5 := Va.cell (j := 5) rfl
  have ac6 := Va.cell (j := 6) rfl
  have ac7 := Va.cell (j := 7) rfl
  have ac8 := Va.cell (j := 8) rfl
  have ac9 := Va.cell (j := 9) rfl
  have rc0 := Vr.cell (j := 0) rfl
  have rc1 := Vr.cell (j := 1) rfl
  have rc2 := Vr.cell (j := 2) rfl
  have rc3 := Vr.cell (j := 3) rfl
  have rc4 := Vr.cell (j := 4) rfl
  have rc5 := Vr.cell (j := 5) rfl
  have rc6 := Vr.cell (j := 6) rfl
  have rc7 := Vr.cell (j := 7) rfl
  have rc8 := Vr.cell (j := 8) rfl
  have rc9 := Vr.cell (j := 9) rfl
  have rf0 := Vr.frozen 0
  have rf1 := Vr.frozen 1
  have rf2 := Vr.frozen 2
  have rf3 := Vr.frozen 3
  have rf4 := Vr.frozen 4
  have rf5 := Vr.frozen 5
  have rf6 := Vr.frozen 6
  have rf7 := Vr.frozen 7
  have rf8 := Vr.frozen 8
  have rf9 := Vr.frozen 9
  go_wp2
  (try simp only [Exit.inBlock, Exit.then])
  refine bodyPost_ret (v := .tuple #[.agg #[.int .i64 c, .int .i64 sl, .int .i64 r, .int .i64 p, .int .i64 ar, .int .i64 ap, .int .i64 k, .int .i64 m, .int .i64 n, .string s], .bool false, .int .i64 0]) ?_ rfl ⟨rfl, ?_⟩
  · rw [r_cell1tt rfl]
    go_simp
  · (try rw [hB])
    exact below10 (b := B + 1 + 1 + 1) hb5 (by omega) _ _ _ _ _ _ _ _ _ _
set_option maxRecDepth 100000 in
set_option maxHeartbeats 2000000 in
theorem refAccept_yes (r p ar ap k m n : Int) (s : ByteArray) (c sl x y k2 m2 n2 : Int) (s2 : ByteArray) (w : World) (hs : s2.size ≤ 9223372036854775807) (hm : mayB c sl x y = true) (he : entB k2 m2 n2 s2 = true) (hl : lessB x y r p = false) :
    Calls Tryd.prog 45 #[.agg #[.int .i64 c, .int .i64 sl, .int .i64 r, .int .i64 p, .int .i64 ar, .int .i64 ap, .int .i64 k, .int .i64 m, .int .i64 n, .string s], .agg #[.int .i64 x, .int .i64 y], .agg #[.int .i64 k2, .int .i64 m2, .int .i64 n2, .string s2]] w fun e w' =>
      e = .returned (.tuple #[.agg #[.int .i64 c, .int .i64 sl, .int .i64 x, .int .i64 y, .int .i64 x, .int .i64 y, .int .i64 k2, .int .i64 m2, .int .i64 n2, .string s2], .bool true, .int .i64 0]) ∧ Below w.heap.size w w' := by
  have cM := fun W => refMay_any c sl x y W
  rw [hm] at cM
  have cE := fun W => ref14_any k2 m2 n2 s2 W hs
  rw [he] at cE
  have cL := fun W => refLess_at x y r p _ hl W
  clear hm he hl
  go_enter Tryd.func45, Tryd.ntmps45
  go_upto_region 1 with fail
  obtain ⟨Xa, Xb, Xe, Xr, hb, hz⟩ := quad w 51 36 24 51 #[.int .i64 c, .int .i64 sl, .int .i64 r, .int .i64 p, .int .i64 ar, .int .i64 ap, .int .i64 k, .int .i64 m, .int .i64 n, .string s] #[.int .i64 x, .int .i64 y] #[.int .i64 k2, .int .i64 m2, .int .i64 n2, .string s2] #[.int .i64 0, .int .i64 0, .int .i64 0, .int .i64 0, .int .i64 0, .int .i64 0, .int .i64 0, .int .i64 0, .int .i64 0, .string ⟨#[]⟩]
  generalize (((w.alloc (.cells #[.int .i64 c, .int .i64 sl, .int .i64 r, .int .i64 p, .int .i64 ar, .int .i64 ap, .int .i64 k, .int .i64 m, .int .i64 n, .string s] 51)).alloc (.cells #[.int .i64 x, .int .i64 y] 36)).alloc (.cells #[.int .i64 k2, .int .i64 m2, .int .i64 n2, .string s2] 24)).alloc (.cells #[.int .i64 0, .int .i64 0, .int .i64 0, .int .i64 0, .int .i64 0, .int .i64 0, .int .i64 0, .int .i64 0, .int .i64 0, .string ⟨#[]⟩] 51) = W at *
  obtain ⟨B, hB⟩ : ∃ B, w.heap.size = B := ⟨_, rfl⟩
  rw [hB] at Xa Xb Xe Xr hz hb
  have ac0 := Xa.cell (j := 0) rfl
  have ac1 := Xa.cell (j := 1) rfl
  have bc0 := Xb.cell (j := 0) rfl
  have bc1 := Xb.cell (j := 1) rfl
  go_wp2_with fail
  refine (cM _).mono ?_
  rintro e w2 ⟨rfl, hb2⟩
  have Ya := Xa.step hb2
  have Yb := Xb.step hb2
  have Ye := Xe.step hb2
  have Yr := Xr.step hb2
  have hb3 := hb.trans (hb2.mono (by have := hb.size; omega))
  clear ac0 ac1 bc0 bc1 hb2 hb Xa Xb Xe Xr cM
  have ec0 := Ye.cell (j := 0) rfl
  have ec1 := Ye.cell (j := 1) rfl
  have ec2 := Ye.cell (j := 2) rfl
  have ec3 := Ye.cell (j := 3) rfl
  go_wp2_with fail
  refine (cE _).mono ?_
  rintro e w3 ⟨rfl, hb2⟩
  have Za := Ya.step hb2
  have Zb := Yb.step hb2
  have Ze := Ye.step hb2
  have Zr := Yr.step hb2
  have hb4 := hb3.trans (hb2.mono (by have := hb3.size; omega))
  clear ec0 ec1 ec2 ec3 hb2 hb3 Ya Yb Ye Yr cE
  have ac0 := Za.cell (j := 0) rfl
  have ac1 := Za.cell (j := 1) rfl
  have ac2 := Za.cell (j := 2) rfl
  have ac3 := Za.cell (j := 3) rfl
  have ac4 := Za.cell (j := 4) rfl
  have ac5 := Za.cell (j := 5) rfl
  have ac6 := Za.cell (j := 6) rfl
  have ac7 := Za.cell (j := 7) rfl
  have ac8 := Za.cell (j := 8) rfl
  have ac9 := Za.cell (j := 9) rfl
  have bc0 := Zb.cell (j := 0) rfl
  have bc1 := Zb.cell (j := 1) rfl
  go_wp2_with fail
  refine (cL _).mono ?_
  rintro e w4 ⟨rfl, hb2⟩
  have Va := Za.step hb2
  have Vb := Zb.step hb2
  have Ve := Ze.step hb2
  have Vr := Zr.step hb2
  have hb5 := hb4.trans (hb2.mono (by have := hb4.size; omega))
  clear ac0 ac1 ac2 ac3 ac4 ac5 ac6 ac7 ac8 ac9 bc0 bc1 hb2 hb4 Za Zb Ze Zr cL
  have ac0 := Va.cell (j := 0) rfl
  have ac1 := Va.cell (j := 1) rfl
  have ac2 := Va.cell (j := 2) rfl
  have ac3 := Va.cell (j := 3) rfl
  have ac4 := Va.cell (j := 4) rfl
  have ac5 := Va.cell (j := 5) rfl
  have ac6 := Va.cell (j := 6) rfl
  have ac7 := Va.cell (j := 7) rfl
  have ac8 := Va.cell (j := 8) rfl
  have ac9 := Va.cell (j := 9) rfl
  have af0 := Va.frozen 0
  have af1 := Va.frozen 1
  have af2 := Va.frozen 2
  have af3 := Va.frozen 3
  have af4 := Va.frozen 4
  have af5 := Va.frozen 5
  have af6 := Va.frozen 6
  have af7 := Va.frozen 7
  have af8 := Va.frozen 8
  have af9 := Va.frozen 9
  have bc0 := Vb.cell (j := 0) rfl
  have bc1 := Vb.cell (j := 1) rfl
  have ec0 := Ve.cell (j := 0) rfl
  have ec1 := Ve.cell (j := 1) rfl
  have ec2 := Ve.cell (j := 2) rfl
  have ec3 := Ve.cell (j := 3) rfl
  go_upto_region 5 with fail
  go_region
  have Ua := (((((((Va.set 2 (.int .i64 x)).set 3 (.int .i64 y)).set 4 (.int .i64 x)).set 5 (.int .i64 y)).set 6 (.int .i64 k2)).set 7 (.int .i64 m2)).set 8 (.int .i64 n2)).set 9 (.string s2)
  have hne : B + 1 + 1 + 1 ≠ B := by omega
  have Ur := (((((((Vr.other hne 2 (.int .i64 x)).other hne 3 (.int .i64 y)).other hne 4 (.int .i64 x)).other hne 5 (.int .i64 y)).other hne 6 (.int .i64 k2)).other hne 7 (.int .i64 m2)).other hne 8 (.int .i64 n2)).other hne 9 (.string s2)
  have hb6 := (((((((hb5.setCell (p := ⟨B, 2, none⟩) (Nat.le_refl _) (.int .i64 x)).setCell (p := ⟨B, 3, none⟩) (Nat.le_refl _) (.int .i64 y)).setCell (p := ⟨B, 4, none⟩) (Nat.le_refl _) (.int .i64 x)).setCell (p := ⟨B, 5, none⟩) (Nat.le_refl _) (.int .i64 y)).setCell (p := ⟨B, 6, none⟩) (Nat.le_refl _) (.int .i64 k2)).setCell (p := ⟨B, 7, none⟩) (Nat.le_refl _) (.int .i64 m2)).setCell (p := ⟨B, 8, none⟩) (Nat.le_refl _) (.int .i64 n2)).setCell (p := ⟨B, 9, none⟩) (Nat.le_refl _) (.string s2)
  generalize (((((((w4.setCell ⟨B, 2, none⟩ (.int .i64 x)).setCell ⟨B, 3, none⟩ (.int .i64 y)).setCell ⟨B, 4, none⟩ (.int .i64 x)).setCell ⟨B, 5, none⟩ (.int .i64 y)).setCell ⟨B, 6, none⟩ (.int .i64 k2)).setCell ⟨B, 7, none⟩ (.int .i64 m2)).setCell ⟨B, 8, none⟩ (.int .i64 n2)).setCell ⟨B, 9, none⟩ (.string s2) = w5 at *
  clear ac0 ac1 ac2 ac3 ac4 ac5 ac6 ac7 ac8 ac9 af0 af1 af2 af3 af4 af5 af6 af7 af8 af9 bc0 bc1 ec0 ec1 ec2 ec3 Va Vb Ve Vr hb5
  have Ta : Blk w5.drew B 51 _ := Ua
  have Tr : Blk w5.drew (B + 1 + 1 + 1) 51 _ := Ur
  have hb7 := hb6.drew
  generalize w5.drew = w6 at *
  clear Ua Ur hb6
  simp only [List.set_cons_succ, List.set_cons_zero] at Ta
  have ac0 := Ta.cell (j := 0) rfl
  have ac1 := Ta.cell (j := 1) rfl
  have ac2 := Ta.cell (j := 2) rfl
  have ac3 := Ta.cell (j := 3) rfl
  have ac4 := Ta.cell (j := 4) rfl
  have ac5 := Ta.cell (j := 5) rfl
  have ac6 := Ta.cell (j := 6) rfl
  have ac7 := Ta.cell (j := 7) rfl
  have ac8 := Ta.cell (j := 8) rfl
  have ac9 := Ta.cell (j := 9) rfl
  have rc0 := Tr.cell (j := 0) rfl
  have rc1 := Tr.cell (j := 1) rfl
  have rc2 := Tr.cell (j := 2) rfl
  have rc3 := Tr.cell (j := 3) rfl
  have rc4 := Tr.cell (j := 4) rfl
  have rc5 := Tr.cell (j := 5) rfl
  have rc6 := Tr.cell (j := 6) rfl
  have rc7 := Tr.cell (j := 7) rfl
  have rc8 := Tr.cell (j := 8) rfl
  have rc9 := Tr.cell (j := 9) rfl
  have rf0 := Tr.frozen 0
  have rf1 := Tr.frozen 1
  have rf2 := Tr.frozen 2
  have rf3 := Tr.frozen 3
  have rf4 := Tr.frozen 4
  have rf5 := Tr.frozen 5
  have rf6 := Tr.frozen 6
  have rf7 := Tr.frozen 7
  have rf8 := Tr.frozen 8
  have rf9 := Tr.frozen 9
  go_wp2
  (try simp only [Exit.inBlock, Exit.then])
  refine bodyPost_ret (v := .tuple #[.agg #[.int .i64 c, .int .i64 sl, .int .i64 x, .int .i64 y, .int .i64 x, .int .i64 y, .int .i64 k2, .int .i64 m2, .int .i64 n2, .string s2], .bool true, .int .i64 0]) ?_ rfl ⟨rfl, ?_⟩
  · rw [r_cell1tt rfl]
    go_simp
  · (try rw [hB])
    exact below10 (b := B + 1 + 1 + 1) hb7 (by omega) _ _ _ _ _ _ _ _ _ _
theorem refAccept_any (A : Acc) (x y k2 m2 n2 : Int) (s2 : ByteArray) (w : World) (hs : s2.size ≤ 9223372036854775807) :
    Calls Tryd.prog 45 #[refV A, .agg #[.int .i64 x, .int .i64 y], .agg #[.int .i64 k2, .int .i64 m2, .int .i64 n2, .string s2]] w fun e w' => e = .returned (.tuple #[refV (accA A x y k2 m2 n2 s2), .bool (accB A x y k2 m2 n2 s2), .int .i64 (accE A x y k2 m2 n2 s2)]) ∧ Below w.heap.size w w' := by
  obtain ⟨r, p, ar, ap, k, m, n, s, c, sl⟩ := A
  unfold accA accB accE
  simp only
  cases h1 : mayB c sl x y && entB k2 m2 n2 s2
  · exact refAccept_no r p ar ap k m n s c sl x y k2 m2 n2 s2 w hs h1
  · have h2 := h1
    simp only [Bool.and_eq_true] at h2
    have hg := less_ge x y r p
    cases hl : lessB x y r p
    · rw [hl] at hg
      rw [show decide (0 ≤ cmpI x y r p) = true by simpa using hg]
      exact refAccept_yes r p ar ap k m n s c sl x y k2 m2 n2 s2 w hs h2.1 h2.2 hl
    · rw [hl] at hg
      rw [show decide (0 ≤ cmpI x y r p) = false by simpa using hg]
      exact refAccept_not r p ar ap k m n s c sl x y k2 m2 n2 s2 w hs h2.1 h2.2 hl
end Go.Proofs.YtcokbljlgbcpkaaDoor
