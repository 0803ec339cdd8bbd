
/- Plain laws of text: who is named, quotes, signs counted and cut, small letters, words and lines. -/
import Derived.Lib.DecodeN
import Derived.Lib.TrimUEq
import Derived.Lib.TrimAscii
import Derived.Lib.MapLaws
import Derived.Lib.Split
import Derived.Lib.IndexBytes
namespace Go.Proofs.YtehjglaofhgjfaaDoor
set_option linter.unusedSimpArgs false
set_option linter.unusedVariables false
/-- A text's bytes. -/
abbrev BL := List UInt8
def mkS (l : BL) : ByteArray := ⟨l.toArray⟩
theorem mkS_data (l : BL) : (mkS l).data.toList = l := by simp [mkS]
theorem mkS_size (l : BL) : (mkS l).size = l.length := by simp [mkS, ByteArray.size]
def isN (c : UInt8) : Bool := (decide (97 ≤ c.toNat) && decide (c.toNat ≤ 122)) || (decide (48 ≤ c.toNat) && decide (c.toNat ≤ 57)) || decide (c.toNat = 95)
def runN (l : BL) : Nat := (l.takeWhile isN).length
/-- Who is named, each time; p: does a name's sign stand ahead? -/
def nms : Bool → BL → List BL
  | _, [] => []
  | p, c :: t => if c.toNat = 64 ∧ p = false ∧ 0 < runN t ∧ runN t ≤ 16 then t.take (runN t) :: nms (isN c) t else nms (isN c) t
def nubF : List BL → List BL → List BL
  | out, [] => out
  | out, x :: t => nubF (if x ∈ out then out else out ++ [x]) t
def namedL (l : BL) : List BL := nubF [] (nms false l)
theorem decN_hi (n b0 b1 b2 b3 : Nat) (h0 : 128 ≤ b0) (z1 : b1 < 256) (z2 : b2 < 256) (z3 : b3 < 256) : 128 ≤ (Lib.decodeN n b0 b1 b2 b3).1 ∧
    (1 < (Lib.decodeN n b0 b1 b2 b3).2 → 128 ≤ b1 ∧ 1 < n) ∧ (2 < (Lib.decodeN n b0 b1 b2 b3).2 → 128 ≤ b2 ∧ 2 < n) ∧ (3 < (Lib.decodeN n b0 b1 b2 b3).2 → 128 ≤ b3 ∧ 3 < n) ∧ (Lib.decodeN n b0 b1 b2 b3).2 ≤ 4 := by
  unfold Lib.decodeN
  repeat' split
  all_goals (refine ⟨?_, ?_, ?_, ?_, ?_⟩ <;> (try intro) <;> simp only at * <;> omega)
theorem getD_lt (l : BL) (j : Nat) : (l.getD j 0).toNat < 256 := (l.getD j 0).toNat_lt
/-- A sign that begins with a byte above 127: no byte of it is below 128. -/
theorem dec_hi (c : UInt8) (t : BL) (h : 128 ≤ c.toNat) : 128 ≤ (Lib.decodeL (c :: t)).1 ∧ ∃ hs rest : BL, c :: t = hs ++ rest ∧ hs.length = (Lib.decodeL (c :: t)).2 ∧ ∀ x ∈ hs, 128 ≤ x.toNat := by
  have hN := Lib.decodeL_N (c :: t)
  have hw := Lib.decodeL_width (c :: t)
  have hle := Lib.decodeL_le (c :: t) (by simp)
  obtain ⟨d1, d2, d3, d4, d5⟩ := decN_hi (c :: t).length ((c :: t).getD 0 0).toNat ((c :: t).getD 1 0).toNat ((c :: t).getD 2 0).toNat ((c :: t).getD 3 0).toNat (by simpa using h) (getD_lt _ _) (getD_lt _ _) (getD_lt _ _)
  rw [← hN] at d1 d2 d3 d4 d5
  refine ⟨d1, (c :: t).take (Lib.decodeL (c :: t)).2, (c :: t).drop (Lib.decodeL (c :: t)).2, (List.take_append_drop _ _).symm, by rw [List.length_take]; omega, ?_⟩
  generalize (Lib.decodeL (c :: t)).2 = k at *
  intro x hx
  obtain ⟨j, hj, rfl⟩ := List.getElem_of_mem hx
  rw [List.length_take] at hj
  rw [List.getElem_take]
  have e : ∀ m, (hm : m < (c :: t).length) → (c :: t)[m] = (c :: t).getD m 0 := fun m hm => by simp [List.getD_eq_getElem?_getD, List.getElem?_eq_getElem hm]
  rw [e j (by omega)]
  have hj4 : j = 0 ∨ j = 1 ∨ j = 2 ∨ j = 3 := by omega
  rcases hj4 with rfl | rfl | rfl | rfl
  · simpa using h
  · exact (d2 (by omega)).1
  · exact (d3 (by omega)).1
  · exact (d4 (by omega)).1
theorem nms_hi (hs rest : BL) (hne : hs ≠ []) (h : ∀ x ∈ hs, 128 ≤ x.toNat) : ∀ p, nms p (hs ++ rest) = nms false rest := by
  induction hs with
  | nil => exact absurd rfl hne
  | cons c t ih =>
    intro p
    have hc := h c (by simp)
    have hn : isN c = false := by unfold isN; simp; omega
    rw [List.cons_append, nms, if_neg (fun e => by omega), hn]
    by_cases ht : t = []
    · subst ht; rfl
    · exact ih ht (fun x hx => h x (by simp [hx])) false
def signR (r : Int) : Bool := (decide (97 ≤ r) && decide (r ≤ 122)) || (decide (48 ≤ r) && decide (r ≤ 57)) || decide (r = 95)
theorem signR_byte (c : UInt8) : signR (c.toNat : Int) = isN c := by
  unfold signR isN
  rw [Bool.eq_iff_iff]
  simp
  omega
theorem signR_hi (r : Int) (h : 128 ≤ r) : signR r = false := by unfold signR; simp; omega
/-- One sign of a text is one step. -/
theorem nms_sign (l : BL) (hl : l ≠ []) (p : Bool) :
    nms p l = (if (Lib.decodeL l).1 = 64 ∧ p = false ∧ 0 < runN l.tail ∧ runN l.tail ≤ 16 then [l.tail.take (runN l.tail)] else []) ++ nms (signR ((Lib.decodeL l).1 : Nat)) (l.drop (Lib.decodeL l).2) := by
  cases l with
  | nil => exact absurd rfl hl
  | cons c t =>
    by_cases hc : c.toNat < 128
    · rw [Lib.decodeL_ascii c t hc, nms, signR_byte]
      show _ = (if c.toNat = 64 ∧ p = false ∧ 0 < runN t ∧ runN t ≤ 16 then [t.take (runN t)] else []) ++ nms (isN c) t
      by_cases h : c.toNat = 64 ∧ p = false ∧ 0 < runN t ∧ runN t ≤ 16
      · rw [if_pos h, if_pos h]; rfl
      · rw [if_neg h, if_neg h]; rfl
    · obtain ⟨h1, hs, rest, he, hlen, hh⟩ := dec_hi c t (by omega)
      rw [if_neg (fun e => by omega), List.nil_append, signR_hi _ (by omega)]
      have hd : (c :: t).drop (Lib.decodeL (c :: t)).2 = rest := by rw [← hlen, he, List.drop_left]
      rw [hd, he]
      have := Lib.decodeL_width (c :: t)
      exact nms_hi hs rest (by intro e; subst e; simp at hlen; omega) hh p
/-- One sign of a name's tail. -/
theorem runN_sign (l : BL) (hl : l ≠ []) : (signR ((Lib.decodeL l).1 : Nat) = true → (Lib.decodeL l).2 = 1 ∧ runN l = runN (l.drop 1) + 1) ∧ (signR ((Lib.decodeL l).1 : Nat) = false → runN l = 0) := by
  cases l with
  | nil => exact absurd rfl hl
  | cons c t =>
    by_cases hc : c.toNat < 128
    · rw [Lib.decodeL_ascii c t hc]
      simp only [signR_byte, runN]
      constructor
      · intro h; simp [h]
      · intro h; simp [h]
    · obtain ⟨h1, -⟩ := dec_hi c t (by omega)
      have hn : isN c = false := by unfold isN; simp; omega
      rw [signR_hi _ (by omega)]
      exact ⟨fun h => (by cases h), fun _ => by simp [runN, hn]⟩
theorem runN_le (l : BL) : runN l ≤ l.length := (List.takeWhile_prefix isN).length_le
theorem nms_end (p : Bool) : nms p [] = [] := rfl
/-! Quotes. -/
def hexd (n : Nat) : UInt8 := if n < 10 then UInt8.ofNat (48 + n) else UInt8.ofNat (87 + n)
def qB (c : UInt8) : BL := if c.toNat = 34 ∨ c.toNat = 92 then [92, c] else if 32 ≤ c.toNat ∧ c.toNat < 127 then [c] else [92, 120, hexd (c.toNat / 16), hexd (c.toNat % 16)]
def quoteL (l : BL) : BL := 34 :: (l.flatMap qB ++ [34])
def hexv (c : UInt8) : Int := if 48 ≤ c.toNat ∧ c.toNat ≤ 57 then (c.toNat : Int) - 48 else if 97 ≤ c.toNat ∧ c.toNat ≤ 102 then (c.toNat : Int) - 87 else -1
theorem hexv_hexd (n : Nat) (h : n < 16) : hexv (hexd n) = (n : Int) := by
  have : ∀ m : Fin 16, hexv (hexd m.1) = (m.1 : Int) := by decide
  exact this ⟨n, h⟩
def byteI (n : Int) : UInt8 := UInt8.ofNat n.toNat
/-- The program's way to read a quoted text's inner bytes. -/
def unqP : BL → Option BL
  | c :: d :: h :: l :: t =>
    if c.toNat = 92 then
      (if d.toNat = 120 then (if 0 ≤ hexv h ∧ 0 ≤ hexv l then (unqP t).map (byteI (hexv h * 16 + hexv l) :: ·) else none)
      else (unqP (h :: l :: t)).map (d :: ·))
    else (unqP (d :: h :: l :: t)).map (c :: ·)
  | c :: d :: t => if c.toNat = 92 then (if d.toNat = 120 then none else (unqP t).map (d :: ·)) else (unqP (d :: t)).map (c :: ·)
  | l => some l
theorem unqP_esc (c d : UInt8) (t : BL) (h : c.toNat = 92) (hd : d.toNat ≠ 120) : unqP (c :: d :: t) = (unqP t).map (d :: ·) := by
  match t with
  | [] => rw [unqP, if_pos h, if_neg hd]; simp
  | [a] => rw [unqP, if_pos h, if_neg hd]; simp
  | a :: b :: t => rw [unqP, if_pos h, if_neg hd]
theorem unqP_plain (c : UInt8) (t : BL) (h : c.toNat ≠ 92) : unqP (c :: t) = (unqP t).map (c :: ·) := by
  match t with
  | [] => rfl
  | [a] => rw [unqP, if_neg h]; simp
  | [a, b] => rw [unqP, if_neg h]; simp
  | a :: b :: d :: t => rw [unqP, if_neg h]
theorem unqP_hex (c d h l : UInt8) (t : BL) (hc : c.toNat = 92) (hd : d.toNat = 120) (hh : 0 ≤ hexv h ∧ 0 ≤ hexv l) : unqP (c :: d :: h :: l :: t) = (unqP t).map (byteI (hexv h * 16 + hexv l) :: ·) := by
  rw [unqP, if_pos hc, if_pos hd, if_pos hh]
theorem unqP_nohex (c d h l : UInt8) (t : BL) (hc : c.toNat = 92) (hd : d.toNat = 120) (hh : ¬ (0 ≤ hexv h ∧ 0 ≤ hexv l)) : unqP (c :: d :: h :: l :: t) = none := by
  rw [unqP, if_pos hc, if_pos hd, if_neg hh]
theorem unqP_short (c d : UInt8) (t : BL) (hc : c.toNat = 92) (hd : d.toNat = 120) (ht : t.length < 2) : unqP (c :: d :: t) = none := by
  match t, ht with
  | [], _ => rw [unqP, if_pos hc, if_pos hd]; simp
  | [a], _ => rw [unqP, if_pos hc, if_pos hd]; simp
/-- The document's. -/
def unqD : BL → BL
  | c :: d :: h :: l :: t =>
    if c.toNat = 92 ∧ (d.toNat = 34 ∨ d.toNat = 92) then d :: unqD (h :: l :: t)
    else if c.toNat = 92 ∧ d.toNat = 120 ∧ 0 ≤ hexv h ∧ 0 ≤ hexv l then byteI (hexv h * 16 + hexv l) :: unqD t
    else c :: unqD (d :: h :: l :: t)
  | c :: d :: t => if c.toNat = 92 ∧ (d.toNat = 34 ∨ d.toNat = 92) then d :: unqD t else c :: unqD (d :: t)
  | l => l
theorem byteI_of (c : UInt8) (h l : Int) (e1 : h = ((c.toNat / 16 : Nat) : Int)) (e2 : l = ((c.toNat % 16 : Nat) : Int)) : byteI (h * 16 + l) = c := by
  subst e1 e2
  have : (((c.toNat / 16 : Nat) : Int) * 16 + ((c.toNat % 16 : Nat) : Int)).toNat = c.toNat := by omega
  rw [byteI, this]
  simp
theorem unqP_q (c : UInt8) (t : BL) : unqP (qB c ++ t) = (unqP t).map (c :: ·) := by
  have hc := c.toNat_lt
  unfold qB
  split
  · rename_i h
    exact unqP_esc 92 c t (by decide) (by omega)
  · split
    · rename_i h1 h2
      exact unqP_plain c t (by omega)
    · rw [List.cons_append, List.cons_append, List.cons_append, List.cons_append, List.nil_append, unqP_hex _ _ _ _ _ (by decide) (by decide) (by rw [hexv_hexd _ (by omega), hexv_hexd _ (by omega)]; omega)]
      rw [hexv_hexd _ (by omega), hexv_hexd _ (by omega), byteI_of c _ _ rfl rfl]
theorem unqP_quote (l : BL) : unqP (l.flatMap qB) = some l := by
  induction l with
  | nil => rfl
  | cons c t ih => rw [List.flatMap_cons, unqP_q, ih]; rfl
theorem unqD_esc (c d : UInt8) (t : BL) (h : c.toNat = 92 ∧ (d.toNat = 34 ∨ d.toNat = 92)) : unqD (c :: d :: t) = d :: unqD t := by
  match t with
  | [] => rw [unqD, if_pos h]; simp
  | [a] => rw [unqD, if_pos h]; simp
  | a :: b :: t => rw [unqD, if_pos h]
theorem unqD_plain (c : UInt8) (t : BL) (h : c.toNat ≠ 92) : unqD (c :: t) = c :: unqD t := by
  match t with
  | [] => rfl
  | [a] => rw [unqD, if_neg (fun e => h e.1)]; simp
  | [a, b] => rw [unqD, if_neg (fun e => h e.1)]; simp
  | a :: b :: d :: t => rw [unqD, if_neg (fun e => h e.1), if_neg (fun e => h e.1)]
theorem unqD_q (c : UInt8) (t : BL) : unqD (qB c ++ t) = c :: unqD t := by
  have hc := c.toNat_lt
  unfold qB
  split
  · rename_i h
    exact unqD_esc 92 c t ⟨by decide, h⟩
  · split
    · rename_i h1 h2
      exact unqD_plain c t (by omega)
    · rw [List.cons_append, List.cons_append, List.cons_append, List.cons_append, List.nil_append, unqD, if_neg (by decide)]
      rw [hexv_hexd _ (by omega), hexv_hexd _ (by omega), if_pos ⟨by decide, by decide, by omega, by omega⟩, byteI_of c _ _ rfl rfl]
theorem unqD_quote (l : BL) : unqD (l.flatMap qB) = l := by
  induction l with
  | nil => rfl
  | cons c t ih => rw [List.flatMap_cons, unqD_q, ih]
/-- A text without its first and its last byte. -/
def innerL (l : BL) : BL := (l.drop 1).dropLast
theorem inner_quote (l : BL) : innerL (quoteL l) = l.flatMap qB := by simp [innerL, quoteL]
def resP (s : BL) : Option BL := if s.length < 2 then none else match unqP (innerL s) with
  | some o => if quoteL o = s then some o else none
  | none => none
def resD (s : BL) : Option BL := if quoteL (unqD (innerL s)) = s then some (unqD (innerL s)) else none
theorem res_eq (s : BL) : resP s = resD s := by
  by_cases h : ∃ o, quoteL o = s
  · obtain ⟨o, rfl⟩ := h
    have hl : ¬ (quoteL o).length < 2 := by simp [quoteL]
    unfold resP resD
    rw [if_neg hl, inner_quote, unqP_quote, unqD_quote]
  · have h1 : resD s = none := by unfold resD; rw [if_neg (fun e => h ⟨_, e⟩)]
    have h2 : resP s = none := by
      unfold resP
      split
      · rfl
      · split
        · rw [if_neg (fun e => h ⟨_, e⟩)]
        · rfl
    rw [h1, h2]
theorem resP_quote (l : BL) : resP (quoteL l) = some l := by
  have hl : ¬ (quoteL l).length < 2 := by simp [quoteL]
  unfold resP
  rw [if_neg hl, inner_quote, unqP_quote]
  simp
/-! Signs: how many, the first of them. -/
def lenF : Nat → BL → Nat
  | 0, _ => 0
  | k + 1, l => if l = [] then 0 else 1 + lenF k (l.drop (Lib.decodeL l).2)
def lenB (l : BL) : Nat := lenF l.length l
def posF : Nat → BL → Nat
  | 0, _ => 0
  | n + 1, l => if l = [] then 0 else (Lib.decodeL l).2 + posF n (l.drop (Lib.decodeL l).2)
def cutB (n : Nat) (l : BL) : BL := l.take (posF n l)
theorem drop_lt (l : BL) (h : l ≠ []) : (l.drop (Lib.decodeL l).2).length < l.length := by
  have h1 := Lib.decodeL_width l
  have h2 := List.length_pos_iff.2 h
  rw [List.length_drop]
  omega
theorem lenF_enough : ∀ (k j : Nat) (l : BL), l.length ≤ k → l.length ≤ j → lenF k l = lenF j l
  | 0, 0, _, _, _ => rfl
  | 0, j + 1, l, h, _ => by
    have : l = [] := List.length_eq_zero_iff.1 (by omega)
    subst this; simp [lenF]
  | k + 1, 0, l, _, h => by
    have : l = [] := List.length_eq_zero_iff.1 (by omega)
    subst this; simp [lenF]
  | k + 1, j + 1, l, h1, h2 => by
    unfold lenF
    split
    · rfl
    · rename_i hne
      have := drop_lt l hne
      rw [lenF_enough k j _ (by omega) (by omega)]
theorem lenB_nil : lenB [] = 0 := rfl
theorem lenB_step (l : BL) (h : l ≠ []) : lenB l = 1 + lenB (l.drop (Lib.decodeL l).2) := by
  have h2 := List.length_pos_iff.2 h
  have h3 := drop_lt l h
  unfold lenB
  obtain ⟨k, hk⟩ : ∃ k, l.length = k + 1 := ⟨l.length - 1, by omega⟩
  rw [hk, lenF, if_neg h, lenF_enough k _ _ (by omega) (Nat.le_refl _)]
theorem lenB_le (l : BL) : lenB l ≤ l.length := by
  generalize hn : l.length = n
  induction n using Nat.strongRecOn generalizing l with
  | ind n ih =>
    by_cases h : l = []
    · subst h; simp [lenB_nil]
    · have := drop_lt l h
      have := ih _ (by omega) (l.drop (Lib.decodeL l).2) rfl
      rw [lenB_step l h]
      omega
theorem lenB_pos (l : BL) (h : l ≠ []) : 0 < lenB l := by rw [lenB_step l h]; omega
theorem posF_le : ∀ (n : Nat) (l : BL), posF n l ≤ l.length
  | 0, l => Nat.zero_le _
  | n + 1, l => by
    unfold posF
    split
    · omega
    · rename_i h
      have h1 := Lib.decodeL_le l h
      have h2 := posF_le n (l.drop (Lib.decodeL l).2)
      rw [List.length_drop] at h2
      omega
theorem posF_succ : ∀ (n : Nat) (l : BL), posF (n + 1) l = posF n l + (if l.drop (posF n l) = [] then 0 else (Lib.decodeL (l.drop (posF n l))).2)
  | 0, l => by simp [posF]
  | n + 1, l => by
    rw [posF]
    split
    · rename_i h; subst h; simp [posF]
    · rename_i h
      rw [posF_succ n (l.drop (Lib.decodeL l).2)]
      have e : posF (n + 1) l = (Lib.decodeL l).2 + posF n (l.drop (Lib.decodeL l).2) := by rw [posF, if_neg h]
      rw [e, List.drop_drop]
      omega
theorem posF_len : ∀ (n : Nat) (l : BL), lenB l ≤ n → posF n l = l.length
  | 0, l, h => by
    by_cases hl : l = []
    · subst hl; rfl
    · have := lenB_pos l hl; omega
  | n + 1, l, h => by
    unfold posF
    split
    · rename_i hl; subst hl; rfl
    · rename_i hl
      have h1 := Lib.decodeL_le l hl
      rw [lenB_step l hl] at h
      rw [posF_len n _ (by omega), List.length_drop]
      omega
theorem posF_lt : ∀ (n : Nat) (l : BL), n < lenB l → posF n l < l.length
  | 0, l, h => by
    have : l ≠ [] := fun e => by subst e; simp [lenB_nil] at h
    have := List.length_pos_iff.2 this
    simp [posF]; omega
  | n + 1, l, h => by
    have hl : l ≠ [] := fun e => by subst e; simp [lenB_nil] at h
    rw [lenB_step l hl] at h
    have h1 := Lib.decodeL_le l hl
    have h2 := posF_lt n _ (show n < lenB (l.drop (Lib.decodeL l).2) by omega)
    rw [posF, if_neg hl]
    rw [List.length_drop] at h2
    omega
/-- What is left behind n signs. -/
theorem lenB_drop : ∀ (n : Nat) (l : BL), lenB (l.drop (posF n l)) = lenB l - n
  | 0, l => by simp [posF]
  | n + 1, l => by
    unfold posF
    split
    · rename_i hl; subst hl; simp [lenB_nil]
    · rename_i hl
      rw [← List.drop_drop, lenB_drop n, lenB_step l hl]
      omega
theorem cutB_length (n : Nat) (l : BL) : (cutB n l).length = posF n l := by
  unfold cutB
  rw [List.length_take]
  have := posF_le n l
  omega
theorem cutB_all (n : Nat) (l : BL) (h : lenB l ≤ n) : cutB n l = l := by
  unfold cutB
  rw [posF_len n l h, List.take_length]
set_option maxRecDepth 100000 in
theorem decN_take (n m b0 b1 b2 b3 c1 c2 c3 : Nat) (hm : 1 ≤ m) (h : (Lib.decodeN n b0 b1 b2 b3).2 ≤ m) (e1 : 1 < m → c1 = b1) (e2 : 2 < m → c2 = b2) (e3 : 3 < m → c3 = b3) :
    Lib.decodeN (min m n) b0 c1 c2 c3 = Lib.decodeN n b0 b1 b2 b3 := by
  by_cases m1 : m = 1
  · subst m1
    unfold Lib.decodeN at h ⊢
    repeat' split at h
    all_goals (try (simp only at h; omega))
    all_goals (repeat' split)
    all_goals first | rfl | (exfalso; omega)
  · rw [e1 (by omega)]
    by_cases m2 : m = 2
    · subst m2
      unfold Lib.decodeN at h ⊢
      repeat' split at h
      all_goals (try (simp only at h; omega))
      all_goals (repeat' split)
      all_goals first | rfl | (exfalso; omega)
    · rw [e2 (by omega)]
      by_cases m3 : m = 3
      · subst m3
        unfold Lib.decodeN at h ⊢
        repeat' split at h
        all_goals (try (simp only at h; omega))
        all_goals (repeat' split)
        all_goals first | rfl | (exfalso; omega)
      · rw [e3 (by omega)]
        have x1 : (1 < min m n) = (1 < n) := propext ⟨fun h => by omega, fun h => by omega⟩
        have x2 : (2 < min m n) = (2 < n) := propext ⟨fun h => by omega, fun h => by omega⟩
        have x3 : (3 < min m n) = (3 < n) := propext ⟨fun h => by omega, fun h => by omega⟩
        unfold Lib.decodeN
        simp only [x1, x2, x3]
theorem take_getD (l : BL) (m j : Nat) (h : j < m) : (l.take m).getD j 0 = l.getD j 0 := by
  simp [List.getD_eq_getElem?_getD, h]
/-- A sign that ends within a head is the head's too. -/
theorem dec_take (l : BL) (m : Nat) (hm : 1 ≤ m) (h : (Lib.decodeL l).2 ≤ m) : Lib.decodeL (l.take m) = Lib.decodeL l := by
  rw [Lib.decodeL_N l] at h
  rw [Lib.decodeL_N (l.take m), Lib.decodeL_N l, List.length_take, take_getD l m 0 (by omega)]
  exact decN_take _ _ _ _ _ _ _ _ _ hm h (fun q => by rw [take_getD l m 1 q]) (fun q => by rw [take_getD l m 2 q]) (fun q => by rw [take_getD l m 3 q])
theorem lenB_cut : ∀ (n : Nat) (l : BL), n ≤ lenB l → lenB (cutB n l) = n
  | 0, l, _ => by simp [cutB, posF, lenB_nil]
  | n + 1, l, h => by
    have hl : l ≠ [] := fun e => by subst e; simp [lenB_nil] at h
    have h1 := Lib.decodeL_width l
    have h2 := Lib.decodeL_le l hl
    have e : cutB (n + 1) l = l.take ((Lib.decodeL l).2 + posF n (l.drop (Lib.decodeL l).2)) := by rw [cutB, posF, if_neg hl]
    have hd := dec_take l ((Lib.decodeL l).2 + posF n (l.drop (Lib.decodeL l).2)) (by omega) (by omega)
    rw [lenB_step l hl] at h
    have hne : cutB (n + 1) l ≠ [] := by
      rw [e]
      intro q
      have := congrArg List.length q
      rw [List.length_take] at this
      have h3 := List.length_pos_iff.2 hl
      rw [List.length_nil] at this
      omega
    rw [lenB_step _ hne, e, hd, List.drop_take]
    have : (Lib.decodeL l).2 + posF n (l.drop (Lib.decodeL l).2) - (Lib.decodeL l).2 = posF n (l.drop (Lib.decodeL l).2) := by omega
    rw [this]
    have := lenB_cut n (l.drop (Lib.decodeL l).2) (by omega)
    unfold cutB at this
    rw [this]
    omega
set_option maxRecDepth 100000 in
theorem decN_blank (n m b0 b1 b2 b3 c1 c2 c3 : Nat) (e1 : 1 < n → c1 = b1 ∧ 1 < m) (e2 : 2 < n → c2 = b2 ∧ 2 < m) (e3 : 3 < n → c3 = b3 ∧ 3 < m) (hn : 1 ≤ n) (hm : n < m) (z1 : n = 1 → c1 = 32) (z2 : n = 2 → c2 = 32) (z3 : n = 3 → c3 = 32) :
    Lib.decodeN m b0 c1 c2 c3 = Lib.decodeN n b0 b1 b2 b3 := by
  by_cases m1 : n = 1
  · rw [z1 m1]
    subst m1
    unfold Lib.decodeN
    simp
  · obtain ⟨rfl, h1⟩ := e1 (by omega)
    by_cases m2 : n = 2
    · rw [z2 m2]
      subst m2
      unfold Lib.decodeN
      simp [h1]
    · obtain ⟨rfl, h2⟩ := e2 (by omega)
      by_cases m3 : n = 3
      · rw [z3 m3]
        subst m3
        unfold Lib.decodeN
        simp [h1, h2]
      · obtain ⟨rfl, h3⟩ := e3 (by omega)
        unfold Lib.decodeN
        simp [h1, h2, h3, show 1 < n by omega, show 2 < n by omega, show 3 < n by omega]
theorem app_getD (a b : BL) (j : Nat) (h : j < a.length) : (a ++ b).getD j 0 = a.getD j 0 := by
  simp [List.getD_eq_getElem?_getD, List.getElem?_append_left h]
theorem app_at (a b : BL) (c : UInt8) : (a ++ c :: b).getD a.length 0 = c := by simp [List.getD_eq_getElem?_getD]
theorem dec_blank (a b : BL) (h : a ≠ []) : Lib.decodeL (a ++ 32 :: b) = Lib.decodeL a := by
  have hl := List.length_pos_iff.2 h
  rw [Lib.decodeL_N, Lib.decodeL_N, app_getD a _ 0 hl]
  refine decN_blank _ _ _ _ _ _ _ _ _ (fun q => ⟨by rw [app_getD a _ 1 q], by simp; omega⟩) (fun q => ⟨by rw [app_getD a _ 2 q], by simp; omega⟩) (fun q => ⟨by rw [app_getD a _ 3 q], by simp; omega⟩) hl (by simp) ?_ ?_ ?_
  all_goals (intro q; rw [← q, app_at]; rfl)
theorem lenB_blank (a b : BL) : lenB (a ++ 32 :: b) = lenB a + 1 + lenB b := by
  generalize hn : a.length = n
  induction n using Nat.strongRecOn generalizing a with
  | ind n ih =>
    by_cases h : a = []
    · subst h
      rw [List.nil_append, lenB_step _ (by simp), Lib.decodeL_ascii 32 b (by decide)]
      simp [lenB_nil]
    · have h1 := drop_lt a h
      have h2 := Lib.decodeL_le a h
      rw [lenB_step (a ++ 32 :: b) (by simp), dec_blank a b h, List.drop_append_of_le_length h2, ih _ (by omega) (a.drop (Lib.decodeL a).2) rfl, lenB_step a h]
      omega
/-! Small letters. -/
def foldB (c : UInt8) : UInt8 := if 65 ≤ c.toNat ∧ c.toNat ≤ 90 then UInt8.ofNat (c.toNat + 32) else c
def foldL (l : BL) : BL := l.map foldB
theorem foldB_nat (c : UInt8) : (foldB c).toNat = if 65 ≤ c.toNat ∧ c.toNat ≤ 90 then c.toNat + 32 else c.toNat := by
  unfold foldB
  split
  · simp; omega
  · rfl
theorem foldB_foldB (c : UInt8) : foldB (foldB c) = foldB c := by
  apply UInt8.toNat_inj.1
  rw [foldB_nat, foldB_nat]
  repeat' split
  all_goals omega
theorem foldL_foldL (l : BL) : foldL (foldL l) = foldL l := by
  unfold foldL
  rw [List.map_map]
  congr 1
  funext c
  exact foldB_foldB c
def foldN (b : Nat) : Nat := if 65 ≤ b ∧ b ≤ 90 then b + 32 else b
theorem foldN_div (b : Nat) : (foldN b / 64 = 2) = (b / 64 = 2) := by
  apply propext
  unfold foldN
  split
  · constructor <;> omega
  · exact Iff.rfl
set_option maxRecDepth 100000 in
theorem decN_fold (n b0 b1 b2 b3 : Nat) : Lib.decodeN n (foldN b0) (foldN b1) (foldN b2) (foldN b3) = ((if b0 < 128 then foldN b0 else (Lib.decodeN n b0 b1 b2 b3).1), (Lib.decodeN n b0 b1 b2 b3).2) := by
  by_cases h : b0 < 128
  · have h2 : foldN b0 < 128 := by unfold foldN; split <;> omega
    rw [if_pos h]
    unfold Lib.decodeN
    rw [if_pos h, if_pos h2]
  · have h2 : foldN b0 = b0 := by unfold foldN; rw [if_neg (by omega)]
    rw [h2, if_neg h]
    have k : ∀ b, b / 64 = 2 → foldN b = b := fun b hb => by unfold foldN; rw [if_neg (by omega)]
    by_cases d1 : b1 / 64 = 2
    · rw [k b1 d1]
      by_cases d2 : b2 / 64 = 2
      · rw [k b2 d2]
        by_cases d3 : b3 / 64 = 2
        · rw [k b3 d3]
        · have d3' : ¬ foldN b3 / 64 = 2 := by rw [foldN_div]; exact d3
          unfold Lib.decodeN
          simp only [d3, d3', and_false, if_false]
      · have d2' : ¬ foldN b2 / 64 = 2 := by rw [foldN_div]; exact d2
        unfold Lib.decodeN
        simp only [d2, d2', and_false, false_and, if_false]
    · have d1' : ¬ foldN b1 / 64 = 2 := by rw [foldN_div]; exact d1
      unfold Lib.decodeN
      simp only [d1, d1', and_false, false_and, if_false]
theorem fold_getD (l : BL) (j : Nat) : ((foldL l).getD j 0).toNat = foldN (l.getD j 0).toNat := by
  unfold foldL
  simp only [List.getD_eq_getElem?_getD, List.getElem?_map]
  cases l[j]? with
  | none => rfl
  | some c => exact foldB_nat c
theorem dec_fold (c : UInt8) (t : BL) : Lib.decodeL (foldL (c :: t)) = ((if c.toNat < 128 then foldN c.toNat else (Lib.decodeL (c :: t)).1), (Lib.decodeL (c :: t)).2) := by
  rw [Lib.decodeL_N, Lib.decodeL_N, fold_getD, fold_getD, fold_getD, fold_getD, show (foldL (c :: t)).length = (c :: t).length by simp [foldL], decN_fold]
  rfl
/-! Words and lines. -/
def wrd : BL → BL → List BL
  | cur, [] => if cur = [] then [] else [cur]
  | cur, c :: t => if c = 32 then (if cur = [] then wrd [] t else cur :: wrd [] t) else wrd (cur ++ [c]) t
def pcs : BL → BL → List BL
  | cur, [] => [cur]
  | cur, c :: t => if c = 32 then cur :: pcs [] t else pcs (cur ++ [c]) t
def full (l : BL) : Bool := decide (l ≠ [])
theorem wrd_pcs : ∀ (l cur : BL), wrd cur l = (pcs cur l).filter full
  | [], cur => by
    unfold wrd pcs
    by_cases h : cur = [] <;> simp [h, full]
  | c :: t, cur => by
    unfold wrd pcs
    by_cases h : c = 32
    · rw [if_pos h, if_pos h]
      by_cases h2 : cur = []
      · simp [h2, full, wrd_pcs t]
      · simp [h2, full, wrd_pcs t]
    · rw [if_neg h, if_neg h, wrd_pcs t]
theorem pcs_no : ∀ (l cur : BL), Lib.index l [32] = -1 → pcs cur l = [cur ++ l]
  | [], cur, _ => by simp [pcs]
  | c :: t, cur, h => by
    rw [Lib.index_one] at h
    by_cases hc : c = 32
    · subst hc; simp [Lib.indexByte] at h
    · have ht : Lib.index t [32] = -1 := by
        rw [Lib.index_one]
        unfold Lib.indexByte at h
        simp [hc] at h
        have := Lib.index_ge t [32]
        rw [Lib.index_one] at this
        by_cases e : Lib.indexByte t 32 = -1
        · exact e
        · have := h e
          omega
      rw [pcs, if_neg hc, pcs_no t _ ht]
      simp
theorem pcs_at : ∀ (l cur : BL) (i : Nat), Lib.index l [32] = i → pcs cur l = (cur ++ l.take i) :: pcs [] (l.drop (i + 1))
  | [], cur, i, h => by rw [Lib.index_one] at h; simp [Lib.indexByte] at h
  | c :: t, cur, i, h => by
    rw [Lib.index_one] at h
    by_cases hc : c = 32
    · subst hc
      simp [Lib.indexByte] at h
      have : i = 0 := by omega
      subst this
      simp [pcs]
    · unfold Lib.indexByte at h
      simp [hc] at h
      split at h
      · omega
      · have : 0 < i := by
          have := Lib.index_ge t [32]
          rw [Lib.index_one] at this
          omega
        obtain ⟨j, rfl⟩ : ∃ j, i = j + 1 := ⟨i - 1, by omega⟩
        have ht : Lib.index t [32] = j := by rw [Lib.index_one]; omega
        rw [pcs, if_neg hc, pcs_at t _ j ht]
        simp
theorem split_pcs (l : BL) : Lib.split l [32] = pcs [] l := by
  unfold Lib.split
  generalize hn : l.length = n
  induction n using Nat.strongRecOn generalizing l with
  | ind n ih =>
    rcases Lib.index_spec l [32] with ⟨h, -⟩ | ⟨i, h, hi, ho, -⟩
    · rw [Lib.count_miss h, pcs_no l [] h]; rfl
    · have h2 := Lib.occAt_room ho
      simp at h2
      rw [Lib.count_hit (by simp) h, pcs_at l [] i h, Nat.add_comm, Lib.splitK, if_neg (by rw [h]; simp), h]
      simp only [Int.toNat_natCast, Nat.add_zero, List.length_cons, List.length_nil, Nat.zero_add, List.nil_append]
      rw [ih (l.drop (i + 1)).length (by rw [List.length_drop]; omega) _ rfl]
def splitW (width : Nat) : Nat → BL → List BL × BL
  | 0, w => ([], w)
  | k + 1, w => if width < lenB w then (cutB width w :: (splitW width k (w.drop (posF width w))).1, (splitW width k (w.drop (posF width w))).2) else ([], w)
def linesF (width : Nat) : List BL → List BL → BL → Nat → List BL
  | [], out, line, has => if 0 < has then out ++ [line] else out
  | w :: ws, out, line, has =>
    if 0 < has ∧ has + 1 + lenB w ≤ width then linesF width ws out (line ++ 32 :: w) (has + 1 + lenB w)
    else linesF width ws ((if 0 < has then out ++ [line] else out) ++ (splitW width w.length w).1) (splitW width w.length w).2 (lenB (splitW width w.length w).2)
def linesL (width : Nat) (l : BL) : List BL := linesF width (wrd [] l) [] [] 0
theorem splitW_ok (width : Nat) (hw : 0 < width) : ∀ (k : Nat) (w : BL), w ≠ [] → w.length ≤ k →
    (∀ x ∈ (splitW width k w).1, 1 ≤ lenB x ∧ lenB x ≤ width) ∧ 1 ≤ lenB (splitW width k w).2 ∧ lenB (splitW width k w).2 ≤ width ∧ (splitW width k w).1.flatten ++ (splitW width k w).2 = w
  | 0, w, h, hl => absurd (List.length_eq_zero_iff.1 (by omega)) h
  | k + 1, w, h, hl => by
    unfold splitW
    split
    · rename_i hlt
      have hp : 0 < posF width w := by
        obtain ⟨j, rfl⟩ : ∃ j, width = j + 1 := ⟨width - 1, by omega⟩
        have := Lib.decodeL_width w
        rw [posF, if_neg h]
        omega
      have hne : w.drop (posF width w) ≠ [] := by
        have := posF_lt width w hlt
        intro e
        have := congrArg List.length e
        rw [List.length_drop] at this
        simp at this
        omega
      obtain ⟨q1, q2, q3, q4⟩ := splitW_ok width hw k (w.drop (posF width w)) hne (by rw [List.length_drop]; omega)
      refine ⟨?_, q2, q3, ?_⟩
      · intro x hx
        rcases List.mem_cons.1 hx with rfl | hx
        · rw [lenB_cut width w (by omega)]; omega
        · exact q1 x hx
      · show (cutB width w :: (splitW width k (w.drop (posF width w))).1).flatten ++ _ = w
        rw [List.flatten_cons, List.append_assoc, q4]
        exact List.take_append_drop _ _
    · rename_i hlt
      exact ⟨by simp, lenB_pos w h, Nat.le_of_not_lt hlt, by simp⟩
def solid (l : BL) : BL := l.filter (fun c => decide (c ≠ 32))
theorem solid_app (a b : BL) : solid (a ++ b) = solid a ++ solid b := by simp [solid]
theorem solid_flat (l : List BL) : solid l.flatten = (l.map solid).flatten := by
  induction l with
  | nil => rfl
  | cons a t ih => rw [List.flatten_cons, solid_app, ih]; rfl
theorem wrd_ne : ∀ (l cur : BL), ∀ x ∈ wrd cur l, x ≠ [] := fun l cur x hx => by
  rw [wrd_pcs] at hx
  simpa [full] using (List.mem_filter.1 hx).2
theorem wrd_solid : ∀ (l cur : BL), solid (wrd cur l).flatten = solid (cur ++ l)
  | [], cur => by unfold wrd; by_cases h : cur = [] <;> simp [h]
  | c :: t, cur => by
    unfold wrd
    by_cases h : c = 32
    · subst h
      have e : solid (cur ++ 32 :: t) = solid (cur ++ t) := by simp [solid]
      rw [if_pos rfl, e]
      by_cases h2 : cur = []
      · subst h2; simp [wrd_solid t []]
      · rw [if_neg h2, List.flatten_cons, solid_app, wrd_solid t [], List.nil_append, solid_app]
    · rw [if_neg h, wrd_solid t (cur ++ [c])]
      simp
theorem linesF_ok (width : Nat) (hw : 0 < width) : ∀ (ws out : List BL) (line : BL) (has : Nat), (∀ x ∈ ws, x ≠ []) → (∀ x ∈ out, 1 ≤ lenB x ∧ lenB x ≤ width) → has = lenB line → has ≤ width →
    (∀ x ∈ linesF width ws out line has, 1 ≤ lenB x ∧ lenB x ≤ width) ∧ solid (linesF width ws out line has).flatten = solid (out.flatten ++ line) ++ solid ws.flatten
  | [], out, line, has, _, ho, hh, hl => by
    unfold linesF
    split
    · refine ⟨?_, by simp [solid]⟩
      intro x hx
      rcases List.mem_append.1 hx with hx | hx
      · exact ho x hx
      · rw [List.mem_singleton.1 hx]; omega
    · have : line = [] := by
        by_cases e : line = []
        · exact e
        · have := lenB_pos line e; omega
      subst this
      exact ⟨ho, by simp [solid]⟩
  | w :: ws, out, line, has, hne, ho, hh, hl => by
    unfold linesF
    have hw0 := hne w (by simp)
    split
    · rename_i hc
      obtain ⟨r1, r2⟩ := linesF_ok width hw ws out (line ++ 32 :: w) (has + 1 + lenB w) (fun x hx => hne x (by simp [hx])) ho (by rw [lenB_blank, hh]) hc.2
      refine ⟨r1, ?_⟩
      rw [r2]
      simp [solid]
    · obtain ⟨q1, q2, q3, q4⟩ := splitW_ok width hw w.length w hw0 (Nat.le_refl _)
      have hout : ∀ x ∈ (if 0 < has then out ++ [line] else out), 1 ≤ lenB x ∧ lenB x ≤ width := by
        split
        · intro x hx
          rcases List.mem_append.1 hx with hx | hx
          · exact ho x hx
          · rw [List.mem_singleton.1 hx]; omega
        · exact ho
      have hfl : (if 0 < has then out ++ [line] else out).flatten = out.flatten ++ line := by
        split
        · simp
        · have : line = [] := by
            by_cases e : line = []
            · exact e
            · have := lenB_pos line e; omega
          subst this
          simp
      obtain ⟨r1, r2⟩ := linesF_ok width hw ws ((if 0 < has then out ++ [line] else out) ++ (splitW width w.length w).1) (splitW width w.length w).2 (lenB (splitW width w.length w).2) (fun x hx => hne x (by simp [hx]))
        (fun x hx => by
          rcases List.mem_append.1 hx with hx | hx
          · exact hout x hx
          · exact q1 x hx) rfl q3
      refine ⟨r1, ?_⟩
      rw [r2, List.flatten_append, hfl, List.append_assoc, q4, List.flatten_cons, solid_app, solid_app w, List.append_assoc]
theorem linesL_ok (width : Nat) (hw : 0 < width) (l : BL) : (∀ x ∈ linesL width l, 1 ≤ lenB x ∧ lenB x ≤ width) ∧ solid (linesL width l).flatten = solid l := by
  obtain ⟨h1, h2⟩ := linesF_ok width hw (wrd [] l) [] [] 0 (wrd_ne l []) (by simp) rfl (by omega)
  refine ⟨h1, ?_⟩
  unfold linesL
  rw [h2, wrd_solid]
  simp [solid]
end Go.Proofs.YtehjglaofhgjfaaDoor
