/- The pure law of SizeLengths: with rounds enough the printed function answers true. -/
import Derived.Test.YtjfnmlheehbojaaPSizeLengthsx1
namespace Go.Proofs.Ytjfnmlheehbojaa.Pure
open Go.RowKit Go.Proofs.Ytjfnmlheehbojaa.PSizeLengths Go.Proofs.YtjfnmlheehbojaaW.PrintWords Go.Proofs.YtjfnmlheehbojaaW.PrintLast

theorem shl0 : shl .i64 128 0 = 128 := by decide +kernel
theorem shl1 : shl .i64 128 1 = 256 := by decide +kernel
theorem shl2 : shl .i64 128 2 = 512 := by decide +kernel
theorem shl3 : shl .i64 128 3 = 1024 := by decide +kernel

theorem wrapId {x : Int} (h : -9223372036854775808 ≤ x) (h' : x < 9223372036854775808) : wrap64 x = x := by
  unfold wrap64
  omega

def shelfOf (n : Int) : Int × Int :=
  if n < 0 then (0, 1) else if n ≤ 112 then (0, 0) else if n ≤ 240 then (1, 0) else if n ≤ 496 then (2, 0) else if n ≤ 1008 then (3, 0) else (0, 2)

theorem shelf (k : Nat) (n : Int) : size_Shelf.f (k + 6) n = some (shelfOf n) := by
  unfold size_Shelf.f shelfOf
  split
  · rfl
  · have w1 : wrap64 (0 + 1) = 1 := by decide +kernel
    have w2 : wrap64 (1 + 1) = 2 := by decide +kernel
    have w3 : wrap64 (2 + 1) = 3 := by decide +kernel
    have w4 : wrap64 (3 + 1) = 4 := by decide +kernel
    have v1 : wrap64 (128 - 16) = 112 := by decide +kernel
    have v2 : wrap64 (256 - 16) = 240 := by decide +kernel
    have v3 : wrap64 (512 - 16) = 496 := by decide +kernel
    have v4 : wrap64 (1024 - 16) = 1008 := by decide +kernel
    simp only [size_Shelf.l0, w1, w2, w3, w4, shl0, shl1, shl2, shl3, v1, v2, v3, v4]
    by_cases h1 : n ≤ 112
    · simp [h1]
    · by_cases h2 : n ≤ 240
      · simp [h1, h2]
      · by_cases h3 : n ≤ 496
        · simp [h1, h2, h3]
        · by_cases h4 : n ≤ 1008
          · simp [h1, h2, h3, h4]
          · simp [h1, h2, h3, h4]

theorem wakes (k : Nat) : tarnlaw8_wakes.f (k + 6) = some true := by
  unfold tarnlaw8_wakes.f
  rw [shelf]
  simp [shelfOf, tarnlaw8_num.f]

theorem j2 (k : Nat) (l : List Int) (i n : Int) (h1 : -2 ≤ i) (h2 : i < 1100)
    (next : ∀ j, k + 6 ≤ j → tarnlaw8_SizeLengths.l0 j l (i + 1) = some true) :
    tarnlaw8_SizeLengths.j2 (k + 8) l i n = some true := by
  have wi : wrap64 (i + 1) = i + 1 := wrapId (by omega) (by omega)
  unfold tarnlaw8_SizeLengths.j2
  rw [shelf (k + 1)]
  simp only [Option.bind_some, tarnlaw8_num.f, wi]
  by_cases a : n < 0
  · simp only [shelfOf, a, if_true]
    simp [next (k + 7) (by omega)]
  · by_cases b : n > 1008
    · have b1 : ¬ n ≤ 112 := by omega
      have b2 : ¬ n ≤ 240 := by omega
      have b3 : ¬ n ≤ 496 := by omega
      have b4 : ¬ n ≤ 1008 := by omega
      simp only [shelfOf, a, b, b1, b2, b3, b4, if_true, if_false]
      simp [next (k + 7) (by omega)]
    · have wn : wrap64 (n + 16) = n + 16 := wrapId (by omega) (by omega)
      have c0 : wrap64 0 = 0 := by decide +kernel
      have c1 : wrap64 1 = 1 := by decide +kernel
      have c2 : wrap64 2 = 2 := by decide +kernel
      have d0 : wrap64 256 = 256 := by decide +kernel
      have d1 : wrap64 512 = 512 := by decide +kernel
      have d2 : wrap64 1024 = 1024 := by decide +kernel
      have nx := next (k + 6) (by omega)
      simp only [a, b, if_false, wn]
      by_cases b1 : n ≤ 112
      · have e : shelfOf n = (0, 0) := by simp [shelfOf, a, b1]
        have g : ¬ n + 16 > 128 := by omega
        simp [e, size_Slot.f, shl0, tarnlaw8_SizeLengths.j3, g, wi, nx]
      · by_cases b2 : n ≤ 240
        · have e : shelfOf n = (1, 0) := by simp [shelfOf, a, b1, b2]
          have g : ¬ n + 16 > 256 := by omega
          have g' : ¬ n + 16 ≤ 128 := by omega
          simp [e, size_Slot.f, shl0, shl1, tarnlaw8_SizeLengths.j3, tarnlaw8_num.f, g, g', wi, wn, nx, c0, d0]
        · by_cases b3 : n ≤ 496
          · have e : shelfOf n = (2, 0) := by simp [shelfOf, a, b1, b2, b3]
            have g : ¬ n + 16 > 512 := by omega
            have g' : ¬ n + 16 ≤ 256 := by omega
            simp [e, size_Slot.f, shl1, shl2, tarnlaw8_SizeLengths.j3, tarnlaw8_num.f, g, g', wi, wn, nx, c1, d1]
          · have e : shelfOf n = (3, 0) := by
              have b4 : n ≤ 1008 := by omega
              simp [shelfOf, a, b1, b2, b3, b4]
            have g : ¬ n + 16 > 1024 := by omega
            have g' : ¬ n + 16 ≤ 512 := by omega
            simp [e, size_Slot.f, shl2, shl3, tarnlaw8_SizeLengths.j3, tarnlaw8_num.f, g, g', wi, wn, nx, c2, d2]

theorem loop (l : List Int) : ∀ (m k : Nat) (i : Int), -2 ≤ i → i ≤ 1100 → 1100 - i = m → 4 * m + 20 ≤ k →
    tarnlaw8_SizeLengths.l0 k l i = some true := by
  intro m
  induction m with
  | zero =>
    intro k i h1 h2 h3 h4
    obtain ⟨k, rfl⟩ : ∃ q, k = q + 10 := ⟨k - 10, by omega⟩
    have e : i = 1100 := by omega
    subst e
    unfold tarnlaw8_SizeLengths.l0
    simp [size_Slot.f, tarnlaw8_num.f, wakes (k + 3)]
  | succ m ih =>
    intro k i h1 h2 h3 h4
    obtain ⟨k, rfl⟩ : ∃ q, k = q + 10 := ⟨k - 10, by omega⟩
    have next : ∀ j, k + 6 ≤ j → tarnlaw8_SizeLengths.l0 j l (i + 1) = some true := by
      intro j hj
      exact ih j (i + 1) (by omega) (by omega) (by omega) (by omega)
    have J := fun n => j2 k l i n h1 (by omega) next
    have wi : wrap64 (i - 1030) = i - 1030 := wrapId (by omega) (by omega)
    have hlt : i < 1100 := by omega
    unfold tarnlaw8_SizeLengths.l0
    simp only [hlt, if_true]
    unfold tarnlaw8_SizeLengths.j1
    simp only [wi]
    by_cases a : i ≥ 1030
    · by_cases b : i - 1030 < (l.length : Int)
      · have c : 0 ≤ i - 1030 := by omega
        simp only [a, b, c, if_true, decide_true]
        exact J _
      · simp only [a, b, if_true, decide_false]
        exact J _
    · simp only [a, if_false]
      exact J _

/-- YOURS -/
theorem SizeLengths : tarnlaw8_SizeLengths.Pure := by
  intro l0 _ _ _
  exact ⟨4 * 1102 + 20, loop l0 1102 _ (-2) (by omega) (by omega) (by omega) (by omega)⟩

end Go.Proofs.Ytjfnmlheehbojaa.Pure
