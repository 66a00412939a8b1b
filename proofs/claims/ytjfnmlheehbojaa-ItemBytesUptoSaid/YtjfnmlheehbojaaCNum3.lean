/- Numbers of 256 bits as bytes. -/
import Derived.Test.YtjfnmlheehbojaaCNum2
namespace Go.Proofs.Ytjfnmlheehbojaa.VA
set_option maxRecDepth 10000
set_option linter.unusedSimpArgs false
set_option linter.unusedVariables false
set_option maxHeartbeats 4000000

theorem wi64n (n : Nat) (h : n < 9223372036854775808) : IntKind.i64.wrap (n : Int) = (n : Int) := wi64 (by omega) (by omega)
theorem c_u256_Bits (n : Nat) (hn : n < U) : Contract Try.prog 77 [u n] (.int .i64 (bitsOf n)) := by
  have hc := c_u256_limbs n hn
  obtain ⟨s0, s1, s2, s3, h0, h1, h2, h3, en⟩ := u_limbs n hn
  have hle : bitsOf n ≤ 256 := (bits_le n 256).2 (by unfold U at hn; omega)
  have hb := bits_le n 0
  have hb1 := bits_le n 64
  have hb2 := bits_le n 128
  have hb3 := bits_le n 192
  have hl : limbsOf n = (bitsOf n + 63) / 64 := rfl
  rw [u_eq h0 h1 h2 h3 en] at hc ⊢
  refine contract_of (C := cf 17 [1, 2, 3, 7] (fun _ => [])) (cf_ok _ _ _) (fn := Try.f77) Try.func77 (by kernel_rfl) rfl (by kernel_rfl) (by simp [cf]) (plain1 (u4_plain _ _ _ _)) (by decide) (noCell (by kernel_rfl)) ?_
  simp only [go_sem, ↓reduceIte, Nat.reduceLT, Nat.reduceLeDiff, Nat.reduceAdd, Nat.reduceSub, Nat.reduceMul, Nat.reduceEqDiff, Nat.reduceBEq, Nat.reduceMod, Nat.reduceDiv, Int.reduceToNat, reduceCtorEq, Int.reduceLT, Int.reduceLE, Int.reduceGT, Int.reduceGE, Int.reduceAdd, Int.reduceSub, Int.reduceMul, Int.reduceNeg, Int.reduceEq, Int.reduceNe, Int.reduceBNe, Int.reduceBEq, Int.reduceDiv]
  refine ex_call (by exact hc) ?_
  have d1 := bits_div n 64
  have d2 := bits_div n 128
  have d3 := bits_div n 192
  obtain e | e | e | e | e : limbsOf n = 0 ∨ limbsOf n = 1 ∨ limbsOf n = 2 ∨ limbsOf n = 3 ∨ limbsOf n = 4 := by omega
  · rw [show (limbsOf n : Int) = 0 by omega]
    simp only [go_sem, ↓reduceIte, Nat.reduceLT, Nat.reduceLeDiff, Nat.reduceAdd, Nat.reduceSub, Nat.reduceMul, Nat.reduceEqDiff, Nat.reduceBEq, Nat.reduceMod, Nat.reduceDiv, Int.reduceToNat, reduceCtorEq, Int.reduceLT, Int.reduceLE, Int.reduceGT, Int.reduceGE, Int.reduceAdd, Int.reduceSub, Int.reduceMul, Int.reduceNeg, Int.reduceEq, Int.reduceNe, Int.reduceBNe, Int.reduceBEq, Int.reduceDiv]
    have e0 : (bitsOf n : Int) = 0 := by omega
    rw [e0]
    refine finOne ?_ (fun _ e => by cases e)
    show resOf _ _ [.tmp 2] = _
    simp only [go_sem, ↓reduceIte, Nat.reduceLT, Nat.reduceLeDiff, Nat.reduceAdd, Nat.reduceSub, Nat.reduceMul, Nat.reduceEqDiff, Nat.reduceBEq, Nat.reduceMod, Nat.reduceDiv, Int.reduceToNat, reduceCtorEq, Int.reduceLT, Int.reduceLE, Int.reduceGT, Int.reduceGE, Int.reduceAdd, Int.reduceSub, Int.reduceMul, Int.reduceNeg, Int.reduceEq, Int.reduceNe, Int.reduceBNe, Int.reduceBEq, Int.reduceDiv]
  · rw [show (limbsOf n : Int) = 1 by omega]
    have e0 : n = s0 := by omega
    have w : IntKind.i64.wrap (0 + (bitsOf s0 : Int)) = bitsOf n := by rw [← e0, wi64 (by omega) (by omega)]; omega
    rw [Int.zero_add] at w
    simp only [go_sem, ↓reduceIte, Nat.reduceLT, Nat.reduceLeDiff, Nat.reduceAdd, Nat.reduceSub, Nat.reduceMul, Nat.reduceEqDiff, Nat.reduceBEq, Nat.reduceMod, Nat.reduceDiv, Int.reduceToNat, reduceCtorEq, Int.reduceLT, Int.reduceLE, Int.reduceGT, Int.reduceGE, Int.reduceAdd, Int.reduceSub, Int.reduceMul, Int.reduceNeg, Int.reduceEq, Int.reduceNe, Int.reduceBNe, Int.reduceBEq, Int.reduceDiv, wi0, wi1, wi2, wi3]
    repeat with_reducible refine And.intro (by first | omega | (simp only [List.length_cons, List.length_append, List.length_nil, List.length_map, List.length_take, List.length_drop, List.length_set]; omega)) ?_
    refine ex_call (by exact c_Len64 s0 h0) ?_
    simp only [go_sem, ↓reduceIte, Nat.reduceLT, Nat.reduceLeDiff, Nat.reduceAdd, Nat.reduceSub, Nat.reduceMul, Nat.reduceEqDiff, Nat.reduceBEq, Nat.reduceMod, Nat.reduceDiv, Int.reduceToNat, reduceCtorEq, Int.reduceLT, Int.reduceLE, Int.reduceGT, Int.reduceGE, Int.reduceAdd, Int.reduceSub, Int.reduceMul, Int.reduceNeg, Int.reduceEq, Int.reduceNe, Int.reduceBNe, Int.reduceBEq, Int.reduceDiv, w, Int.zero_add]
    refine finOne ?_ (fun _ e => by cases e)
    show resOf _ _ [.tmp 2] = _
    simp only [go_sem, ↓reduceIte, Nat.reduceLT, Nat.reduceLeDiff, Nat.reduceAdd, Nat.reduceSub, Nat.reduceMul, Nat.reduceEqDiff, Nat.reduceBEq, Nat.reduceMod, Nat.reduceDiv, Int.reduceToNat, reduceCtorEq, Int.reduceLT, Int.reduceLE, Int.reduceGT, Int.reduceGE, Int.reduceAdd, Int.reduceSub, Int.reduceMul, Int.reduceNeg, Int.reduceEq, Int.reduceNe, Int.reduceBNe, Int.reduceBEq, Int.reduceDiv]
  · rw [show (limbsOf n : Int) = 2 by omega]
    have e0 : n / 2 ^ 64 = s1 := by omega
    have w : IntKind.i64.wrap (64 + (bitsOf s1 : Int)) = bitsOf n := by rw [← e0, wi64 (by omega) (by omega)]; omega
    simp only [go_sem, ↓reduceIte, Nat.reduceLT, Nat.reduceLeDiff, Nat.reduceAdd, Nat.reduceSub, Nat.reduceMul, Nat.reduceEqDiff, Nat.reduceBEq, Nat.reduceMod, Nat.reduceDiv, Int.reduceToNat, reduceCtorEq, Int.reduceLT, Int.reduceLE, Int.reduceGT, Int.reduceGE, Int.reduceAdd, Int.reduceSub, Int.reduceMul, Int.reduceNeg, Int.reduceEq, Int.reduceNe, Int.reduceBNe, Int.reduceBEq, Int.reduceDiv, wi0, wi1, wi2, wi3, wi64k]
    repeat with_reducible refine And.intro (by first | omega | (simp only [List.length_cons, List.length_append, List.length_nil, List.length_map, List.length_take, List.length_drop, List.length_set]; omega)) ?_
    refine ex_call (by exact c_Len64 s1 h1) ?_
    simp only [go_sem, ↓reduceIte, Nat.reduceLT, Nat.reduceLeDiff, Nat.reduceAdd, Nat.reduceSub, Nat.reduceMul, Nat.reduceEqDiff, Nat.reduceBEq, Nat.reduceMod, Nat.reduceDiv, Int.reduceToNat, reduceCtorEq, Int.reduceLT, Int.reduceLE, Int.reduceGT, Int.reduceGE, Int.reduceAdd, Int.reduceSub, Int.reduceMul, Int.reduceNeg, Int.reduceEq, Int.reduceNe, Int.reduceBNe, Int.reduceBEq, Int.reduceDiv, w]
    refine finOne ?_ (fun _ e => by cases e)
    show resOf _ _ [.tmp 2] = _
    simp only [go_sem, ↓reduceIte, Nat.reduceLT, Nat.reduceLeDiff, Nat.reduceAdd, Nat.reduceSub, Nat.reduceMul, Nat.reduceEqDiff, Nat.reduceBEq, Nat.reduceMod, Nat.reduceDiv, Int.reduceToNat, reduceCtorEq, Int.reduceLT, Int.reduceLE, Int.reduceGT, Int.reduceGE, Int.reduceAdd, Int.reduceSub, Int.reduceMul, Int.reduceNeg, Int.reduceEq, Int.reduceNe, Int.reduceBNe, Int.reduceBEq, Int.reduceDiv]
  · rw [show (limbsOf n : Int) = 3 by omega]
    have e0 : n / 2 ^ 128 = s2 := by omega
    have w : IntKind.i64.wrap (128 + (bitsOf s2 : Int)) = bitsOf n := by rw [← e0, wi64 (by omega) (by omega)]; omega
    simp only [go_sem, ↓reduceIte, Nat.reduceLT, Nat.reduceLeDiff, Nat.reduceAdd, Nat.reduceSub, Nat.reduceMul, Nat.reduceEqDiff, Nat.reduceBEq, Nat.reduceMod, Nat.reduceDiv, Int.reduceToNat, reduceCtorEq, Int.reduceLT, Int.reduceLE, Int.reduceGT, Int.reduceGE, Int.reduceAdd, Int.reduceSub, Int.reduceMul, Int.reduceNeg, Int.reduceEq, Int.reduceNe, Int.reduceBNe, Int.reduceBEq, Int.reduceDiv, wi0, wi1, wi2, wi3, wi128k]
    repeat with_reducible refine And.intro (by first | omega | (simp only [List.length_cons, List.length_append, List.length_nil, List.length_map, List.length_take, List.length_drop, List.length_set]; omega)) ?_
    refine ex_call (by exact c_Len64 s2 h2) ?_
    simp only [go_sem, ↓reduceIte, Nat.reduceLT, Nat.reduceLeDiff, Nat.reduceAdd, Nat.reduceSub, Nat.reduceMul, Nat.reduceEqDiff, Nat.reduceBEq, Nat.reduceMod, Nat.reduceDiv, Int.reduceToNat, reduceCtorEq, Int.reduceLT, Int.reduceLE, Int.reduceGT, Int.reduceGE, Int.reduceAdd, Int.reduceSub, Int.reduceMul, Int.reduceNeg, Int.reduceEq, Int.reduceNe, Int.reduceBNe, Int.reduceBEq, Int.reduceDiv, w]
    refine finOne ?_ (fun _ e => by cases e)
    show resOf _ _ [.tmp 2] = _
    simp only [go_sem, ↓reduceIte, Nat.reduceLT, Nat.reduceLeDiff, Nat.reduceAdd, Nat.reduceSub, Nat.reduceMul, Nat.reduceEqDiff, Nat.reduceBEq, Nat.reduceMod, Nat.reduceDiv, Int.reduceToNat, reduceCtorEq, Int.reduceLT, Int.reduceLE, Int.reduceGT, Int.reduceGE, Int.reduceAdd, Int.reduceSub, Int.reduceMul, Int.reduceNeg, Int.reduceEq, Int.reduceNe, Int.reduceBNe, Int.reduceBEq, Int.reduceDiv]
  · rw [show (limbsOf n : Int) = 4 by omega]
    have e0 : n / 2 ^ 192 = s3 := by omega
    have w : IntKind.i64.wrap (192 + (bitsOf s3 : Int)) = bitsOf n := by rw [← e0, wi64 (by omega) (by omega)]; omega
    simp only [go_sem, ↓reduceIte, Nat.reduceLT, Nat.reduceLeDiff, Nat.reduceAdd, Nat.reduceSub, Nat.reduceMul, Nat.reduceEqDiff, Nat.reduceBEq, Nat.reduceMod, Nat.reduceDiv, Int.reduceToNat, reduceCtorEq, Int.reduceLT, Int.reduceLE, Int.reduceGT, Int.reduceGE, Int.reduceAdd, Int.reduceSub, Int.reduceMul, Int.reduceNeg, Int.reduceEq, Int.reduceNe, Int.reduceBNe, Int.reduceBEq, Int.reduceDiv, wi0, wi1, wi2, wi3, wi192k]
    repeat with_reducible refine And.intro (by first | omega | (simp only [List.length_cons, List.length_append, List.length_nil, List.length_map, List.length_take, List.length_drop, List.length_set]; omega)) ?_
    refine ex_call (by exact c_Len64 s3 h3) ?_
    simp only [go_sem, ↓reduceIte, Nat.reduceLT, Nat.reduceLeDiff, Nat.reduceAdd, Nat.reduceSub, Nat.reduceMul, Nat.reduceEqDiff, Nat.reduceBEq, Nat.reduceMod, Nat.reduceDiv, Int.reduceToNat, reduceCtorEq, Int.reduceLT, Int.reduceLE, Int.reduceGT, Int.reduceGE, Int.reduceAdd, Int.reduceSub, Int.reduceMul, Int.reduceNeg, Int.reduceEq, Int.reduceNe, Int.reduceBNe, Int.reduceBEq, Int.reduceDiv, w]
    refine finOne ?_ (fun _ e => by cases e)
    show resOf _ _ [.tmp 2] = _
    simp only [go_sem, ↓reduceIte, Nat.reduceLT, Nat.reduceLeDiff, Nat.reduceAdd, Nat.reduceSub, Nat.reduceMul, Nat.reduceEqDiff, Nat.reduceBEq, Nat.reduceMod, Nat.reduceDiv, Int.reduceToNat, reduceCtorEq, Int.reduceLT, Int.reduceLE, Int.reduceGT, Int.reduceGE, Int.reduceAdd, Int.reduceSub, Int.reduceMul, Int.reduceNeg, Int.reduceEq, Int.reduceNe, Int.reduceBNe, Int.reduceBEq, Int.reduceDiv]
theorem limb_at (n j : Nat) (h : j < 4) : ([.int .u64 (lim n 0), .int .u64 (lim n 1), .int .u64 (lim n 2), .int .u64 (lim n 3)] : List AV)[j]? = some (.int .u64 (lim n j)) := by
  obtain rfl | rfl | rfl | rfl : j = 0 ∨ j = 1 ∨ j = 2 ∨ j = 3 := by omega
  all_goals rfl
theorem lim_byte (n i : Nat) : (n / 2 ^ (64 * (i / 8)) % 18446744073709551616) / 2 ^ (i % 8 * 8) % 256 = n / 256 ^ i % 256 := by
  have e1 : 18446744073709551616 = 2 ^ (i % 8 * 8) * 2 ^ (64 - i % 8 * 8) := by
    rw [← Nat.pow_add, show i % 8 * 8 + (64 - i % 8 * 8) = 64 by omega]
  have e2 : (256 : Nat) ^ i = 2 ^ (64 * (i / 8)) * 2 ^ (i % 8 * 8) := by
    rw [← Nat.pow_add, show (256 : Nat) = 2 ^ 8 by decide, ← Nat.pow_mul]
    congr 1; omega
  rw [e1, Nat.mod_mul_right_div_self, Nat.div_div_eq_div_mul, ← e2]
  refine Nat.mod_mod_of_dvd _ ?_
  rw [show (256 : Nat) = 2 ^ 8 by decide]
  exact Nat.pow_dvd_pow 2 (by omega)
def fill (n k i : Nat) : List AV := List.replicate (k - i) (u8 0) ++ (low i n).map u8
theorem fill_len {n k i : Nat} (h : i ≤ k) : (fill n k i).length = k := by unfold fill; simp [low_len]; omega
theorem fill_set (n k i : Nat) (h : i < k) : (fill n k i).set (k - 1 - i) (.int .u8 ((n / 256 ^ i % 256 : Nat) : Int)) = fill n k (i + 1) := by
  unfold fill
  rw [show (AV.int .u8 ((n / 256 ^ i % 256 : Nat) : Int)) = u8 (UInt8.ofNat (n / 256 ^ i)) by unfold u8; rw [UInt8.toNat_ofNat']]
  rw [show k - i = (k - (i + 1)) + 1 by omega, List.replicate_succ', List.append_assoc, List.set_append_right _ _ (by simp; omega)]
  simp only [List.length_replicate]
  rw [show k - 1 - i - (k - (i + 1)) = 0 by omega, low]
  rfl
theorem fill_get {n k i j : Nat} (h : i ≤ k) (hj : j < k) : ∃ e, (fill n k i)[j]? = some e := ⟨_, List.getElem?_eq_getElem (by rw [fill_len h]; exact hj)⟩
theorem fill_zero (n k : Nat) : fill n k 0 = List.replicate k (.int .u8 0) := by unfold fill; simp [low, u8]
theorem fill_end (n k : Nat) : fill n k k = (low k n).map u8 := by unfold fill; simp
theorem limb_byte (n i : Nat) : IntKind.u8.wrap ((lim n (i / 8)).fdiv (2 ^ min (i % 8 * 8) 64)) = ((n / 256 ^ i % 256 : Nat) : Int) := by
  unfold lim
  rw [shr_nat _ _ (by omega), ← lim_byte]
  show (((_ : Nat) : Int) % 256 : Int) = _
  omega
theorem c_u256_Text (n : Nat) (hn : n < U) : Contract Try.prog 76 [u n] (.str (bytesOf n)) := by
  have hle : bitsOf n ≤ 256 := (bits_le n 256).2 (by unfold U at hn; omega)
  have hc := c_u256_Bits n hn
  unfold u at hc ⊢
  refine contract_of (C := cf 34 [1, 2, 3, 4, 11, 12, 13] (fun _ => [])) (cf_ok _ _ _) (fn := Try.f76) Try.func76 (by kernel_rfl) rfl (by kernel_rfl) (by simp [cf]) (plain1 (u4_plain _ _ _ _)) (by decide) (noCell (by kernel_rfl)) ?_
  have w1 : IntKind.i64.wrap ((bitsOf n : Int) + 7) = ((bitsOf n + 7 : Nat) : Int) := by rw [wi64 (by omega) (by omega)]; omega
  have w2 : ((bitsOf n + 7 : Nat) : Int).tdiv 8 = (byteLen n : Int) := rfl
  have hbl : byteLen n ≤ 32 := by unfold byteLen; omega
  have w3 := wi64n (byteLen n) (by omega)
  simp only [go_sem, ↓reduceIte, Nat.reduceLT, Nat.reduceLeDiff, Nat.reduceAdd, Nat.reduceSub, Nat.reduceMul, Nat.reduceEqDiff, Nat.reduceBEq, Nat.reduceMod, Nat.reduceDiv, Int.reduceToNat, reduceCtorEq, Int.reduceLT, Int.reduceLE, Int.reduceGT, Int.reduceGE, Int.reduceAdd, Int.reduceSub, Int.reduceMul, Int.reduceNeg, Int.reduceEq, Int.reduceNe, Int.reduceBNe, Int.reduceBEq, Int.reduceDiv]
  refine ex_call (by exact hc) ?_
  simp only [go_sem, ↓reduceIte, Nat.reduceLT, Nat.reduceLeDiff, Nat.reduceAdd, Nat.reduceSub, Nat.reduceMul, Nat.reduceEqDiff, Nat.reduceBEq, Nat.reduceMod, Nat.reduceDiv, Int.reduceToNat, reduceCtorEq, Int.reduceLT, Int.reduceLE, Int.reduceGT, Int.reduceGE, Int.reduceAdd, Int.reduceSub, Int.reduceMul, Int.reduceNeg, Int.reduceEq, Int.reduceNe, Int.reduceBNe, Int.reduceBEq, Int.reduceDiv, w1, w2, w3, Int.toNat_natCast]
  repeat with_reducible refine And.intro (by first | omega | (simp only [List.length_cons, List.length_append, List.length_nil, List.length_map, List.length_take, List.length_drop, List.length_set]; omega)) ?_
  refine ex_iter [1, 3, 11, 12] (fun i : Nat => ⟨[(1, .var 1 0), (3, .own false 1 (fill n (byteLen n) i)), (11, .int .i64 (byteLen n)), (12, .int .i64 i)], [(1, [.int .u64 (lim n 0), .int .u64 (lim n 1), .int .u64 (lim n 2), .int .u64 (lim n 3)])]⟩) (fun i => i ≤ byteLen n) (fun i => byteLen n - i) 0 ?_ ?_ ?_
  · simp only [ASt.keep, consIf, keepL, keepV, AV.isBot, List.contains_cons, List.contains_nil, Nat.reduceBEq, Bool.or_false, Bool.false_or, Bool.or_true, Bool.true_or, beq_self_eq_true, Bool.false_eq_true, ↓reduceIte, if_false, if_true]
    rw [fill_zero, List.length_replicate]
    rfl
  · exact Nat.zero_le _
  · intro r i hi next
    simp only [go_sem, ↓reduceIte, Nat.reduceLT, Nat.reduceLeDiff, Nat.reduceAdd, Nat.reduceSub, Nat.reduceMul, Nat.reduceEqDiff, Nat.reduceBEq, Nat.reduceMod, Nat.reduceDiv, Int.reduceToNat, reduceCtorEq, Int.reduceLT, Int.reduceLE, Int.reduceGT, Int.reduceGE, Int.reduceAdd, Int.reduceSub, Int.reduceMul, Int.reduceNeg, Int.reduceEq, Int.reduceNe, Int.reduceBNe, Int.reduceBEq, Int.reduceDiv]
    refine ex_br (fun h => ?_) (fun h => ?_)
    · have hlt : i < byteLen n := by simpa using h
      have wq : (i : Int).tdiv 8 = ((i / 8 : Nat) : Int) := rfl
      have wr : (i : Int).tmod 8 = ((i % 8 : Nat) : Int) := rfl
      have wq2 := wi64n (i / 8) (by omega)
      have wm : IntKind.i64.wrap (((i % 8 : Nat) : Int) * 8) = ((i % 8 * 8 : Nat) : Int) := by rw [wi64 (by omega) (by omega)]; omega
      have ws1 : IntKind.i64.wrap ((byteLen n : Int) - 1) = ((byteLen n - 1 : Nat) : Int) := by rw [wi64 (by omega) (by omega)]; omega
      have ws2 : IntKind.i64.wrap (((byteLen n - 1 : Nat) : Int) - (i : Int)) = ((byteLen n - 1 - i : Nat) : Int) := by rw [wi64 (by omega) (by omega)]; omega
      have hlen : (fill n (byteLen n) i).length = byteLen n := fill_len hi
      obtain ⟨e, he⟩ := fill_get (n := n) hi (show byteLen n - 1 - i < byteLen n by omega)
      simp only [go_sem, ↓reduceIte, Nat.reduceLT, Nat.reduceLeDiff, Nat.reduceAdd, Nat.reduceSub, Nat.reduceMul, Nat.reduceEqDiff, Nat.reduceBEq, Nat.reduceMod, Nat.reduceDiv, Int.reduceToNat, reduceCtorEq, Int.reduceLT, Int.reduceLE, Int.reduceGT, Int.reduceGE, Int.reduceAdd, Int.reduceSub, Int.reduceMul, Int.reduceNeg, Int.reduceEq, Int.reduceNe, Int.reduceBNe, Int.reduceBEq, Int.reduceDiv, wq, wr, wq2, wm, ws1, ws2, hlen, Int.toNat_natCast, limb_at n _ (show i / 8 < 4 by omega)]
      repeat with_reducible refine And.intro (by first | omega | (simp only [List.length_cons, List.length_append, List.length_nil, List.length_map, List.length_take, List.length_drop, List.length_set]; omega)) ?_
      simp only [go_sem, ↓reduceIte, Nat.reduceLT, Nat.reduceLeDiff, Nat.reduceAdd, Nat.reduceSub, Nat.reduceMul, Nat.reduceEqDiff, Nat.reduceBEq, Nat.reduceMod, Nat.reduceDiv, Int.reduceToNat, reduceCtorEq, Int.reduceLT, Int.reduceLE, Int.reduceGT, Int.reduceGE, Int.reduceAdd, Int.reduceSub, Int.reduceMul, Int.reduceNeg, Int.reduceEq, Int.reduceNe, Int.reduceBNe, Int.reduceBEq, Int.reduceDiv, wq, wr, wq2, wm, ws1, ws2, hlen, Int.toNat_natCast, he, limb_byte, fill_set n _ _ hlt]
      refine next (i + 1) _ (by omega) (by omega) ?_
      rw [← wi64_nat i (by omega)]
      simp only [ASt.keep, consIf, keepL, keepV, AV.isBot, List.contains_cons, List.contains_nil, Nat.reduceBEq, Bool.or_false, Bool.false_or, Bool.or_true, Bool.true_or, beq_self_eq_true, Bool.false_eq_true, ↓reduceIte, if_false, if_true]
    · have hge : i = byteLen n := by simp at h; omega
      subst hge
      rw [fill_end]
      simp only [go_sem, ↓reduceIte, Nat.reduceLT, Nat.reduceLeDiff, Nat.reduceAdd, Nat.reduceSub, Nat.reduceMul, Nat.reduceEqDiff, Nat.reduceBEq, Nat.reduceMod, Nat.reduceDiv, Int.reduceToNat, reduceCtorEq, Int.reduceLT, Int.reduceLE, Int.reduceGT, Int.reduceGE, Int.reduceAdd, Int.reduceSub, Int.reduceMul, Int.reduceNeg, Int.reduceEq, Int.reduceNe, Int.reduceBNe, Int.reduceBEq, Int.reduceDiv, asU8_map]
      refine finOne ?_ (fun _ e => by cases e)
      show resOf _ _ [.tmp 2] = _
      simp only [go_sem, ↓reduceIte, Nat.reduceLT, Nat.reduceLeDiff, Nat.reduceAdd, Nat.reduceSub, Nat.reduceMul, Nat.reduceEqDiff, Nat.reduceBEq, Nat.reduceMod, Nat.reduceDiv, Int.reduceToNat, reduceCtorEq, Int.reduceLT, Int.reduceLE, Int.reduceGT, Int.reduceGE, Int.reduceAdd, Int.reduceSub, Int.reduceMul, Int.reduceNeg, Int.reduceEq, Int.reduceNe, Int.reduceBNe, Int.reduceBEq, Int.reduceDiv, bytesOf]
end Go.Proofs.Ytjfnmlheehbojaa.VA
