/- The bytes of items: plain laws. Numbers of 256 bits as natural numbers; what bits.Add64, Sub64, Mul64 tell. Numbers of 256 bits: how many bits, bytes. Numbers of 256 bits as bytes. Numbers of 256 bits as bytes: the page's own, and back. Items' bytes: the small functions. Items' bytes: how long, whether they may be. Functions that hand values to a loop: laws for their walks. Each: a function that hands an item's items to a loop. Items' bytes: the page's own; what is laid. Items' bytes: what is laid. Where paths come together behind a choice, some of them having returned before. The laws on items: what they share. Items of any size: how much they weigh and how deep they are, with numbers that go round. Items out of bytes: plain laws. The number of bytes. Items out of bytes: the head. Items out of bytes: one item, all of them. Items out of bytes: the page's own. Items out of bytes: the page's answer at the top. -/
import Derived.Test.YtmngjlgeojbghaaT1
import Derived.Test.YtmngjlgeojbghaaT2
import Derived.Test.YtmngjlgeojbghaaT3
import Derived.Laws.Externs
import Derived.TacticsIn
import Derived.LoopNIn
set_option linter.unusedSimpArgs false
set_option linter.unusedVariables false
section
namespace Go.Proofs.Ytmngjlgeojbghaa.VA

def headB (n base : Nat) : List UInt8 := if n ≤ 55 then [UInt8.ofNat (base + n)] else UInt8.ofNat (base + 55 + byteLen n) :: bytesOf n
def aheadN (n : Nat) : Nat := if n ≤ 55 then 1 else 1 + byteLen n
theorem headB_len (n base : Nat) : (headB n base).length = aheadN n := by
  unfold headB aheadN
  split
  · rfl
  · rw [List.length_cons, bytesOf_len]; omega
def aloneB (s : List UInt8) : Bool := match s with
  | [b] => decide (b.toNat < 128)
  | _ => false
theorem alone_len {s : List UInt8} (h : aloneB s = true) : s.length = 1 := by
  unfold aloneB at h
  split at h
  · rfl
  · cases h
/-- An item's bytes. -/
def rawOf : ItemD → List UInt8
  | .mk false t _ => if aloneB t = true then t else headB t.length 128 ++ t
  | .mk true _ xs => headB (raws xs).length 192 ++ raws xs
where raws : List ItemD → List UInt8
  | [] => []
  | x :: xs => rawOf x ++ raws xs
abbrev raws := rawOf.raws
theorem raws_nil : raws [] = [] := by rw [raws, rawOf.raws]
theorem raws_cons (x : ItemD) (xs : List ItemD) : raws (x :: xs) = rawOf x ++ raws xs := by rw [raws, rawOf.raws]
theorem raws_append (xs ys : List ItemD) : raws (xs ++ ys) = raws xs ++ raws ys := by
  induction xs with
  | nil => rw [raws_nil]; rfl
  | cons x xs ih => rw [List.cons_append, raws_cons, raws_cons, ih, List.append_assoc]
theorem rawOf_text {it : ItemD} (h : it.list = false) : rawOf it = if aloneB it.text = true then it.text else headB it.text.length 128 ++ it.text := by
  cases it with
  | mk l t xs => cases h; rw [rawOf]; rfl
theorem rawOf_list {it : ItemD} (h : it.list = true) : rawOf it = headB (raws it.items).length 192 ++ raws it.items := by
  cases it with
  | mk l t xs => cases h; rw [rawOf]; rfl
theorem byteLen_small {n : Nat} (h : n < 1099511627776) : byteLen n ≤ 5 := (byteLen_le n 5).2 (by omega)
theorem ahead_le {n : Nat} (h : n < 1099511627776) : aheadN n ≤ 6 := by
  unfold aheadN
  have := byteLen_small h
  split <;> omega
theorem ahead_pos (n : Nat) : 1 ≤ aheadN n := by unfold aheadN; split <;> omega
theorem raws_le {xs : List ItemD} (h : ∀ x ∈ xs, (rawOf x).length ≤ 9 * x.wt) : (raws xs).length ≤ 9 * wts xs := by
  induction xs with
  | nil => rw [raws_nil, wts_nil]; exact Nat.le_refl _
  | cons x xs ih =>
    rw [raws_cons, wts_cons, List.length_append]
    have := ih fun y hy => h y (List.mem_cons_of_mem _ hy)
    have := h x (by simp)
    omega
theorem rawOf_le (it : ItemD) (ho : it.ok) : (rawOf it).length ≤ 9 * it.wt := by
  have hw := wt_eq it
  cases hl : it.list with
  | false =>
    rw [rawOf_text hl]
    have := ho.text
    have := ahead_le (n := it.text.length) (by omega)
    split
    · omega
    · rw [List.length_append, headB_len]; omega
  | true =>
    rw [rawOf_list hl, List.length_append, headB_len]
    have h1 := raws_le (xs := it.items) fun x hx => rawOf_le x (ho.all x hx)
    have h2 : wts it.items ≤ 16777216 := by have := ho; unfold ItemD.ok at this; omega
    have := ahead_le (n := (raws it.items).length) (by omega)
    omega
termination_by SizeOf.sizeOf it
decreasing_by exact item_lt hx
/-- Whether an item may be, beneath so many lists. -/
def okI : Nat → ItemD → Bool
  | d, .mk false t xs => xs.isEmpty && decide ((rawOf (.mk false t xs)).length ≤ 65536)
  | d, .mk true t xs => t.isEmpty && decide (d < 16) && okIs (d + 1) xs && decide ((rawOf (.mk true t xs)).length ≤ 65536)
where okIs : Nat → List ItemD → Bool
  | _, [] => true
  | d, x :: xs => okI d x && okIs d xs
abbrev okIs := okI.okIs
theorem okIs_nil (d : Nat) : okIs d [] = true := by rw [okIs, okI.okIs]
theorem okIs_cons (d : Nat) (x : ItemD) (xs : List ItemD) : okIs d (x :: xs) = (okI d x && okIs d xs) := by rw [okIs, okI.okIs]
theorem okI_text {it : ItemD} (d : Nat) (h : it.list = false) : okI d it = (it.items.isEmpty && decide ((rawOf it).length ≤ 65536)) := by
  cases it with
  | mk l t xs => cases h; rw [okI]; rfl
theorem okI_list {it : ItemD} (d : Nat) (h : it.list = true) : okI d it = (it.text.isEmpty && decide (d < 16) && okIs (d + 1) it.items && decide ((rawOf it).length ≤ 65536)) := by
  cases it with
  | mk l t xs => cases h; rw [okI]; rfl
theorem okIs_mem {d : Nat} : ∀ {xs : List ItemD}, okIs d xs = true → ∀ x ∈ xs, okI d x = true
  | [], _, x, h => by cases h
  | y :: ys, h, x, hx => by
    rw [okIs_cons, Bool.and_eq_true] at h
    rcases List.mem_cons.1 hx with rfl | hx
    · exact h.1
    · exact okIs_mem h.2 x hx
theorem okIs_all {d : Nat} : ∀ {xs : List ItemD}, (∀ x ∈ xs, okI d x = true) → okIs d xs = true
  | [], _ => okIs_nil d
  | y :: ys, h => by
    rw [okIs_cons, Bool.and_eq_true]
    exact ⟨h y (by simp), okIs_all fun x hx => h x (List.mem_cons_of_mem _ hx)⟩
/-- The page's own: how deep, too deep where it may not be. -/
def deepR : ItemD → Nat
  | .mk false _ xs => if xs.isEmpty then 0 else 17
  | .mk true t xs => if t.isEmpty then deepsR 0 xs + 1 else 17
where deepsR : Nat → List ItemD → Nat
  | n, [] => n
  | n, x :: xs => deepsR (max n (deepR x)) xs
abbrev deepsR := deepR.deepsR
theorem deepsR_nil (n : Nat) : deepsR n [] = n := by rw [deepsR, deepR.deepsR]
theorem deepsR_cons (n : Nat) (x : ItemD) (xs : List ItemD) : deepsR n (x :: xs) = deepsR (max n (deepR x)) xs := by rw [deepsR, deepR.deepsR]
theorem deepR_text {it : ItemD} (h : it.list = false) : deepR it = if it.items.isEmpty = true then 0 else 17 := by
  cases it with
  | mk l t xs => cases h; rw [deepR]; rfl
theorem deepR_list {it : ItemD} (h : it.list = true) : deepR it = if it.text.isEmpty = true then deepsR 0 it.items + 1 else 17 := by
  cases it with
  | mk l t xs => cases h; rw [deepR]; rfl
theorem deepsR_le {xs : List ItemD} {m : Nat} : ∀ n, deepsR n xs ≤ m ↔ n ≤ m ∧ ∀ x ∈ xs, deepR x ≤ m := by
  induction xs with
  | nil => intro n; rw [deepsR_nil]; simp
  | cons x xs ih =>
    intro n
    rw [deepsR_cons, ih]
    simp only [List.mem_cons, forall_eq_or_imp, Nat.max_le, and_assoc]
theorem deepR_wt (it : ItemD) : deepR it ≤ it.wt + 17 := by
  cases hl : it.list with
  | false => rw [deepR_text hl]; split <;> omega
  | true =>
    rw [deepR_list hl]
    split
    · have : deepsR 0 it.items ≤ wts it.items + 17 := (deepsR_le 0).2 ⟨by omega, fun x hx => by
        have := deepR_wt x
        have := wts_mem hx
        omega⟩
      have := wt_eq it
      omega
    · omega
termination_by SizeOf.sizeOf it
decreasing_by exact item_lt hx
/-- The page's own bytes: no more of what is too much. -/
def rawR : ItemD → List UInt8
  | .mk false t _ => if aloneB t = true then t else headB t.length 128 ++ t
  | .mk true _ xs => headB (rawsR [] xs).length 192 ++ rawsR [] xs
where rawsR : List UInt8 → List ItemD → List UInt8
  | s, [] => s
  | s, x :: xs => if s.length ≤ 131072 then rawsR (s ++ rawR x) xs else s
abbrev rawsR := rawR.rawsR
theorem rawsR_nil (s : List UInt8) : rawsR s [] = s := by rw [rawsR, rawR.rawsR]
theorem rawsR_cons (s : List UInt8) (x : ItemD) (xs : List ItemD) : rawsR s (x :: xs) = if s.length ≤ 131072 then rawsR (s ++ rawR x) xs else s := by rw [rawsR, rawR.rawsR]
theorem rawsR_end {s : List UInt8} {xs : List ItemD} (h : ¬ s.length ≤ 131072) : rawsR s xs = s := by
  cases xs with
  | nil => exact rawsR_nil s
  | cons x xs => rw [rawsR_cons, if_neg h]
theorem rawsR_drop {s : List UInt8} {xs : List ItemD} {i : Nat} {x : ItemD} (e : xs[i]? = some x) (h : s.length ≤ 131072) : rawsR s (xs.drop i) = rawsR (s ++ rawR x) (xs.drop (i + 1)) := by
  obtain ⟨hi, rfl⟩ := List.getElem?_eq_some_iff.1 e
  rw [← List.getElem_cons_drop hi, rawsR_cons, if_pos h]
theorem rawR_text {it : ItemD} (h : it.list = false) : rawR it = rawOf it := by
  rw [rawOf_text h]
  cases it with
  | mk l t xs => cases h; rw [rawR]; rfl
theorem rawR_list {it : ItemD} (h : it.list = true) : rawR it = headB (rawsR [] it.items).length 192 ++ rawsR [] it.items := by
  cases it with
  | mk l t xs => cases h; rw [rawR]; rfl
theorem rawsR_le {xs : List ItemD} (h : ∀ x ∈ xs, (rawR x).length ≤ 9 * x.wt) : ∀ s, s.length ≤ (rawsR s xs).length ∧ (rawsR s xs).length ≤ s.length + 9 * wts xs := by
  induction xs with
  | nil => intro s; rw [rawsR_nil, wts_nil]; omega
  | cons x xs ih =>
    intro s
    rw [rawsR_cons, wts_cons]
    have h1 := ih (fun y hy => h y (List.mem_cons_of_mem _ hy)) (s ++ rawR x)
    rw [List.length_append] at h1
    have := h x (by simp)
    split <;> omega
theorem rawR_le (it : ItemD) (ho : it.ok) : (rawR it).length ≤ 9 * it.wt := by
  cases hl : it.list with
  | false => rw [rawR_text hl]; exact rawOf_le it ho
  | true =>
    have hw := wt_eq it
    rw [rawR_list hl, List.length_append, headB_len]
    have h1 := (rawsR_le (xs := it.items) (fun x hx => rawR_le x (ho.all x hx)) []).2
    rw [List.length_nil] at h1
    have h2 : wts it.items ≤ 16777216 := by have := ho; unfold ItemD.ok at this; omega
    have := ahead_le (n := (rawsR [] it.items).length) (by omega)
    omega
termination_by SizeOf.sizeOf it
decreasing_by exact item_lt hx
theorem rawsR_raws {xs : List ItemD} (ho : ∀ x ∈ xs, x.ok) (h : ∀ x ∈ xs, rawR x = rawOf x ∨ (65536 < (rawR x).length ∧ 65536 < (rawOf x).length)) : ∀ s t, s = t ∨ (65536 < s.length ∧ 65536 < t.length) →
    rawsR s xs = t ++ raws xs ∨ (65536 < (rawsR s xs).length ∧ 65536 < (t ++ raws xs).length) := by
  induction xs with
  | nil => intro s t hst; rw [rawsR_nil, raws_nil, List.append_nil]; exact hst
  | cons x xs ih =>
    intro s t hst
    rw [rawsR_cons, raws_cons, ← List.append_assoc]
    split
    · refine ih (fun y hy => ho y (List.mem_cons_of_mem _ hy)) (fun y hy => h y (List.mem_cons_of_mem _ hy)) _ _ ?_
      rcases hst with rfl | ⟨h1, h2⟩
      · rcases h x (by simp) with e | ⟨h1, h2⟩
        · rw [e]; exact .inl rfl
        · refine .inr ⟨?_, ?_⟩ <;> rw [List.length_append] <;> omega
      · refine .inr ⟨?_, ?_⟩ <;> rw [List.length_append] <;> omega
    · rename_i hlong
      refine .inr ⟨by omega, ?_⟩
      rw [List.length_append, List.length_append]
      rcases hst with rfl | ⟨h1, h2⟩ <;> omega
theorem rawR_rawOf (it : ItemD) (ho : it.ok) : rawR it = rawOf it ∨ (65536 < (rawR it).length ∧ 65536 < (rawOf it).length) := by
  cases hl : it.list with
  | false => exact .inl (rawR_text hl)
  | true =>
    rw [rawR_list hl, rawOf_list hl]
    have := rawsR_raws (xs := it.items) ho.all (fun x hx => rawR_rawOf x (ho.all x hx)) [] [] (.inl rfl)
    rw [List.nil_append] at this
    rcases this with e | ⟨h1, h2⟩
    · rw [e]; exact .inl rfl
    · refine .inr ⟨?_, ?_⟩ <;> rw [List.length_append] <;> omega
termination_by SizeOf.sizeOf it
decreasing_by exact item_lt hx
theorem raws_mem : ∀ {xs : List ItemD} {x : ItemD}, x ∈ xs → (rawOf x).length ≤ (raws xs).length
  | y :: ys, x, h => by
    rw [raws_cons, List.length_append]
    rcases List.mem_cons.1 h with rfl | h
    · omega
    · have := raws_mem h; omega
/-- What may be, by the page and by the code. -/
theorem deep_ok (it : ItemD) : ∀ d, okI d it = true ↔ (deepR it + d ≤ 16 ∨ (deepR it = 0)) ∧ (rawOf it).length ≤ 65536 := by
  cases hl : it.list with
  | false =>
    intro d
    rw [okI_text d hl, deepR_text hl, Bool.and_eq_true, decide_eq_true_eq]
    split
    · rename_i h; rw [h]; simp
    · rename_i h
      simp only [h]
      constructor
      · rintro ⟨h, _⟩; cases h
      · rintro ⟨h | h, _⟩ <;> omega
  | true =>
    intro d
    rw [okI_list d hl, deepR_list hl]
    simp only [Bool.and_eq_true, decide_eq_true_eq]
    split
    · rename_i ht
      constructor
      · rintro ⟨⟨⟨_, hd⟩, hall⟩, hlen⟩
        refine ⟨.inl ?_, hlen⟩
        have := (deepsR_le (xs := it.items) (m := 15 - d) 0).2 ⟨Nat.zero_le _, fun x hx => ?_⟩
        · omega
        · have := ((deep_ok x (d + 1)).1 (okIs_mem hall x hx)).1
          omega
      · rintro ⟨hd, hlen⟩
        have hd : deepsR 0 it.items + 1 + d ≤ 16 := by omega
        refine ⟨⟨⟨ht, by omega⟩, okIs_all fun x hx => (deep_ok x (d + 1)).2 ⟨?_, ?_⟩⟩, hlen⟩
        · have := ((deepsR_le (xs := it.items) (m := 15 - d) 0).1 (by omega)).2 x hx
          omega
        · have h1 := raws_mem hx
          rw [rawOf_list hl, List.length_append] at hlen
          omega
    · rename_i ht
      constructor
      · rintro ⟨⟨⟨h, _⟩, _⟩, _⟩; exact absurd h ht
      · rintro ⟨h, _⟩; omega
termination_by SizeOf.sizeOf it
decreasing_by all_goals exact item_lt (by assumption)
end Go.Proofs.Ytmngjlgeojbghaa.VA
end
section
namespace Go.Proofs.Ytmngjlgeojbghaa.VA
set_option maxRecDepth 10000
set_option maxHeartbeats 4000000

/-- The limb number i. -/
def lim (n i : Nat) : Int := ((n / 2 ^ (64 * i) % 18446744073709551616 : Nat) : Int)
/-- A number of 256 bits. -/
def u (n : Nat) : AV := .agg [.int .u64 (lim n 0), .int .u64 (lim n 1), .int .u64 (lim n 2), .int .u64 (lim n 3)]
def U : Nat := 115792089237316195423570985008687907853269984665640564039457584007913129639936
theorem u_plain (n : Nat) : Plain (u n) := .agg _ fun c hc => by
  simp only [List.mem_cons, List.not_mem_nil, or_false] at hc
  rcases hc with rfl | rfl | rfl | rfl <;> exact .int _ _
theorem lim_lt (n i : Nat) : 0 ≤ lim n i ∧ lim n i < 18446744073709551616 := by
  unfold lim; omega
def adS (x y c : Int) : Int := (x + y + c) % 18446744073709551616
def adC (x y c : Int) : Int := (x + y + c) / 18446744073709551616
theorem adC_bit {x y c : Int} (hx : 0 ≤ x ∧ x < 18446744073709551616) (hy : 0 ≤ y ∧ y < 18446744073709551616) (hc : c = 0 ∨ c = 1) : adC x y c = 0 ∨ adC x y c = 1 := by
  unfold adC; omega

theorem dig0 {s0 s1 s2 s3 c : Nat} (h0 : s0 < 18446744073709551616) (h1 : s1 < 18446744073709551616) (h2 : s2 < 18446744073709551616) (h3 : s3 < 18446744073709551616) :
    (s0 + 18446744073709551616 * s1 + 340282366920938463463374607431768211456 * s2 + 6277101735386680763835789423207666416102355444464034512896 * s3 + U * c) % U = s0 + 18446744073709551616 * s1 + 340282366920938463463374607431768211456 * s2 + 6277101735386680763835789423207666416102355444464034512896 * s3 ∧
    (s0 + 18446744073709551616 * s1 + 340282366920938463463374607431768211456 * s2 + 6277101735386680763835789423207666416102355444464034512896 * s3 + U * c) / U = c := by
  unfold U
  constructor <;> omega
theorem lim_val {s0 s1 s2 s3 : Nat} (h0 : s0 < 18446744073709551616) (h1 : s1 < 18446744073709551616) (h2 : s2 < 18446744073709551616) (h3 : s3 < 18446744073709551616) :
    lim (s0 + 18446744073709551616 * s1 + 340282366920938463463374607431768211456 * s2 + 6277101735386680763835789423207666416102355444464034512896 * s3) 0 = s0 ∧
    lim (s0 + 18446744073709551616 * s1 + 340282366920938463463374607431768211456 * s2 + 6277101735386680763835789423207666416102355444464034512896 * s3) 1 = s1 ∧
    lim (s0 + 18446744073709551616 * s1 + 340282366920938463463374607431768211456 * s2 + 6277101735386680763835789423207666416102355444464034512896 * s3) 2 = s2 ∧
    lim (s0 + 18446744073709551616 * s1 + 340282366920938463463374607431768211456 * s2 + 6277101735386680763835789423207666416102355444464034512896 * s3) 3 = s3 := by
  unfold lim
  refine ⟨?_, ?_, ?_, ?_⟩ <;> congr 1 <;> simp only [Nat.reduceMul, Nat.reducePow, Nat.mul_zero, Nat.pow_zero, Nat.div_one, Nat.mul_one] <;> omega
/-- A number by its limbs. -/
theorem u_limbs (n : Nat) (hn : n < U) : ∃ s0 s1 s2 s3 : Nat, s0 < 18446744073709551616 ∧ s1 < 18446744073709551616 ∧ s2 < 18446744073709551616 ∧ s3 < 18446744073709551616 ∧
    n = s0 + 18446744073709551616 * s1 + 340282366920938463463374607431768211456 * s2 + 6277101735386680763835789423207666416102355444464034512896 * s3 :=
  ⟨n % 18446744073709551616, n / 18446744073709551616 % 18446744073709551616, n / 340282366920938463463374607431768211456 % 18446744073709551616, n / 6277101735386680763835789423207666416102355444464034512896 % 18446744073709551616,
    Nat.mod_lt _ (by decide), Nat.mod_lt _ (by decide), Nat.mod_lt _ (by decide), Nat.mod_lt _ (by decide), by unfold U at hn; omega⟩
theorem adS_nat (x y c : Nat) : adS x y c = ((x + y + c) % 18446744073709551616 : Nat) := by unfold adS; omega
theorem adC_nat (x y c : Nat) : adC x y c = ((x + y + c) / 18446744073709551616 : Nat) := by unfold adC; omega
theorem u4_plain (a b c d : Int) : Plain (AV.agg [.int .u64 a, .int .u64 b, .int .u64 c, .int .u64 d]) := .agg _ fun z hz => by
  simp only [List.mem_cons, List.not_mem_nil, or_false] at hz
  rcases hz with rfl | rfl | rfl | rfl <;> exact .int _ _
/-- One step of a sum. -/
theorem ad_step (x y c : Nat) : ∃ s k : Nat, s < 18446744073709551616 ∧ adS x y c = s ∧ adC x y c = k ∧ s + 18446744073709551616 * k = x + y + c :=
  ⟨_, _, Nat.mod_lt _ (by decide), adS_nat x y c, adC_nat x y c, by omega⟩
theorem u_eq {a b c d : Nat} (ha : a < 18446744073709551616) (hb : b < 18446744073709551616) (hc : c < 18446744073709551616) (hd : d < 18446744073709551616) {n : Nat} (hn : n = a + 18446744073709551616 * b + 340282366920938463463374607431768211456 * c + 6277101735386680763835789423207666416102355444464034512896 * d) :
    u n = AV.agg [.int .u64 (a : Int), .int .u64 (b : Int), .int .u64 (c : Int), .int .u64 (d : Int)] := by
  subst hn
  obtain ⟨l0, l1, l2, l3⟩ := lim_val ha hb hc hd
  unfold u
  rw [l0, l1, l2, l3]
theorem adC_01 {x y c k : Nat} (hx : x < 18446744073709551616) (hy : y < 18446744073709551616) (hc : c ≤ 1) {s : Nat} (h : s + 18446744073709551616 * k = x + y + c) : k ≤ 1 := by omega

/-- The page's own step of a sum. -/
theorem ref_add {x y c s k : Nat} (hx : x < 18446744073709551616) (hy : y < 18446744073709551616) (hc : c ≤ 1) (hs : s < 18446744073709551616) (h : s + 18446744073709551616 * k = x + y + c) :
    IntKind.u64.wrap (IntKind.u64.wrap ((x : Int) + y) + c) = s ∧
    (bif decide ((s : Int) < IntKind.u64.wrap ((x : Int) + y)) then 1 else bif decide (IntKind.u64.wrap ((x : Int) + y) < x) then (1 : Int) else 0) = k := by
  simp only [IntKind.wrap_u64]
  refine ⟨by omega, ?_⟩
  cases h1 : decide ((s : Int) < ((x : Int) + y) % 18446744073709551616) <;> cases h2 : decide (((x : Int) + y) % 18446744073709551616 < x) <;> simp only [cond_true, cond_false] <;> simp only [decide_eq_true_eq, decide_eq_false_iff_not] at h1 h2 <;> omega
/-! Which of two numbers is greater. -/
def cmpOf (n m : Nat) : Int := if n < m then -1 else if n > m then 1 else 0
theorem c_u256_Cmp (n m : Nat) (hn : n < U) (hm : m < U) : Contract Try.prog 32 [u n, u m] (.int .i64 (cmpOf n m)) := by
  obtain ⟨x0, x1, x2, x3, hx0, hx1, hx2, hx3, en⟩ := u_limbs n hn
  obtain ⟨y0, y1, y2, y3, hy0, hy1, hy2, hy3, em⟩ := u_limbs m hm
  rw [u_eq hx0 hx1 hx2 hx3 en, u_eq hy0 hy1 hy2 hy3 em]
  refine contract_of (C := cf 26 [2, 3, 4, 5, 7, 10, 18] (fun _ => [])) (cf_ok _ _ _) (fn := Try.f32) Try.func32 (by kernel_rfl) rfl (by kernel_rfl) (by simp [cf]) (plain2 (u4_plain _ _ _ _) (u4_plain _ _ _ _)) (by decide) (noCell (by kernel_rfl)) ?_
  simp only [go_sem, seval]
  refine ex_loop [2, 3, 5] 5 ?_
  iterate 4
    simp only [go_sem, seval, ex_round]
    refine ex_draw [] [] (.quiet 0 (.quiet 1 (.quiet 2 (.quiet 3 (.quiet 4 (.quiet 5 (.quiet 6 (.quiet 7 (.fin))))))))) (by kernel_rfl) ?_
    simp only [go_sem, seval, Int.cast_ofNat_Int, wi64]
    refine ex_br (fun h => ?_) (fun h => ?_)
    · have h := of_decide_eq_true h
      have e : cmpOf n m = -1 := by unfold cmpOf; rw [if_pos (by omega)]
      simp only [go_sem, seval]
      refine finOne ?_ (fun _ e => by cases e)
      show resOf _ _ [.tmp 4] = _
      simp only [go_sem, seval, e]
    have h := of_decide_eq_false h
    simp only [go_sem, seval]
    refine ex_draw [] [] (.quiet 0 (.quiet 1 (.quiet 2 (.quiet 3 (.quiet 4 (.quiet 5 (.quiet 6 (.quiet 7 (.fin))))))))) (by kernel_rfl) ?_
    simp only [go_sem, seval, Int.cast_ofNat_Int, wi64]
    refine ex_br (fun h2 => ?_) (fun h2 => ?_)
    · have h2 := of_decide_eq_true h2
      have e : cmpOf n m = 1 := by unfold cmpOf; rw [if_neg (by omega), if_pos (by omega)]
      simp only [go_sem, seval]
      refine finOne ?_ (fun _ e => by cases e)
      show resOf _ _ [.tmp 4] = _
      simp only [go_sem, seval, e]
    have h2 := of_decide_eq_false h2
    simp only [go_sem, seval, Int.cast_ofNat_Int, wi64]
  have e : cmpOf n m = 0 := by unfold cmpOf; rw [if_neg (by omega), if_neg (by omega)]
  simp only [go_sem, seval, ex_round]
  refine finOne ?_ (fun _ e => by cases e)
  show resOf _ _ [.tmp 4] = _
  simp only [go_sem, seval, e]

end Go.Proofs.Ytmngjlgeojbghaa.VA
end
section
namespace Go.Proofs.Ytmngjlgeojbghaa.VA
set_option maxRecDepth 10000
set_option maxHeartbeats 4000000

theorem u_small (n : Nat) (h : n < 18446744073709551616) : u n = .agg [.int .u64 n, .int .u64 (0 : Int), .int .u64 (0 : Int), .int .u64 (0 : Int)] :=
  u_eq (b := 0) (c := 0) (d := 0) h (by decide) (by decide) (by decide) (by omega)
theorem c_u256_Of (n : Nat) (h : n < 9223372036854775808) : Contract Try.prog 33 [.int .i64 n] (.tup [u n, .int .i64 0]) := by
  rw [u_small n (by omega)]
  refine contract_of (C := cf 10 [0, 2, 3, 5] (fun _ => [])) (cf_ok _ _ _) (fn := Try.f33) Try.func33 (by kernel_rfl) rfl (by kernel_rfl) (by simp [cf]) (plain1 (.int _ _)) (by decide) (cellsOk (by kernel_rfl)) ?_
  have w : IntKind.u64.wrap (n : Int) = n := wu64 (by omega) (by omega)
  have e : decide ((n : Int) < 0) = false := decide_eq_false (by omega)
  simp only [go_sem, seval, w, e]
  refine finTup ?_
  show resOf _ _ [.cell 2 67, .tmp 3] = _
  simp only [go_sem, seval]
theorem bits_div (n k : Nat) : bitsOf (n / 2 ^ k) = bitsOf n - k := by
  have h : ∀ j, bitsOf (n / 2 ^ k) ≤ j ↔ bitsOf n ≤ j + k := fun j => by
    rw [bits_le, bits_le, Nat.div_lt_iff_lt_mul (Nat.two_pow_pos k), Nat.pow_add]
  have h1 := (h (bitsOf n - k)).2 (by omega)
  have h2 := (h (bitsOf (n / 2 ^ k))).1 (Nat.le_refl _)
  omega
def limbsOf (n : Nat) : Nat := (bitsOf n + 63) / 64
theorem limbs_eq {n i : Nat} (h1 : n < 2 ^ (64 * i)) (h2 : i = 0 ∨ 2 ^ (64 * (i - 1)) ≤ n) : limbsOf n = i := by
  have h3 := (bits_le n _).2 h1
  unfold limbsOf
  rcases h2 with rfl | h2
  · omega
  · have : ¬ bitsOf n ≤ 64 * (i - 1) := fun e => by
      have := (bits_le n _).1 e
      omega
    omega
theorem wi0 : IntKind.i64.wrap 0 = 0 := by decide
theorem wi1 : IntKind.i64.wrap 1 = 1 := by decide
theorem wi2 : IntKind.i64.wrap 2 = 2 := by decide
theorem wi3 : IntKind.i64.wrap 3 = 3 := by decide
theorem c_u256_limbs (n : Nat) (hn : n < U) : Contract Try.prog 36 [u n] (.int .i64 (limbsOf n)) := by
  obtain ⟨s0, s1, s2, s3, h0, h1, h2, h3, en⟩ := u_limbs n hn
  rw [u_eq h0 h1 h2 h3 en]
  refine contract_of (C := cf 16 [1, 2, 3, 12] (fun _ => [])) (cf_ok _ _ _) (fn := Try.f36) Try.func36 (by kernel_rfl) rfl (by kernel_rfl) (by simp [cf]) (plain1 (u4_plain _ _ _ _)) (by decide) (noCell (by kernel_rfl)) ?_
  simp only [go_sem, seval]
  refine ex_iter [1, 3] (fun i : Nat => ⟨[(1, .var 1 0), (3, .int .i64 i)], [(1, [.int .u64 s0, .int .u64 s1, .int .u64 s2, .int .u64 s3])], []⟩) (fun i => i ≤ 4 ∧ n < 2 ^ (64 * i)) (fun i => i) 4 ?_ ?_ ?_
  · simp only [ASt.keep, consIf, keepL, keepV, AV.isBot, List.contains_cons, List.contains_nil, Nat.reduceBEq, Bool.or_false, Bool.false_or, Bool.or_true, Bool.true_or, beq_self_eq_true, Bool.false_eq_true, ↓reduceIte, if_false, if_true]
    rfl
  · exact ⟨Nat.le_refl _, by unfold U at hn; omega⟩
  · rintro r i ⟨hi, hlt⟩ next
    have fin : limbsOf n = i → True := fun _ => trivial
    have fin : ∀ {σ : ASt}, look σ.tmps 2 = some (.int .i64 i) → limbsOf n = i → BodyPost (cf 16 [1, 2, 3, 12] (fun _ => [])) Try.f36.results.toList (.int .i64 (limbsOf n)) .ret σ := fun h1 h2 => by
      refine finOne ?_ (fun _ e => by cases e)
      show resOf _ _ [.tmp 2] = _
      rw [h2]
      simp only [resOf, resAll, resOne, resCons, resTup, resTmp, h1, AV.isImm, if_true]
    obtain rfl | rfl | rfl | rfl | rfl : i = 0 ∨ i = 1 ∨ i = 2 ∨ i = 3 ∨ i = 4 := by omega
    · simp only [go_sem, seval, Int.cast_ofNat_Int]
      exact fin rfl (limbs_eq hlt (.inl rfl))
    · simp only [go_sem, seval, Int.cast_ofNat_Int, wi0, wi1, wi2, wi3]
      refine ex_br (fun hc => ?_) (fun hc => ?_)
      · simp only [go_sem, seval, wi0, wi1, wi2, wi3]
        have hc : s0 = 0 := by simpa using hc
        exact next 0 _ ⟨by omega, by omega⟩ (by omega) rfl
      · have hc : s0 ≠ 0 := by simpa using hc
        simp only [go_sem, seval]
        exact fin rfl (limbs_eq hlt (.inr (by omega)))
    · simp only [go_sem, seval, Int.cast_ofNat_Int, wi0, wi1, wi2, wi3]
      refine ex_br (fun hc => ?_) (fun hc => ?_)
      · simp only [go_sem, seval, wi0, wi1, wi2, wi3]
        have hc : s1 = 0 := by simpa using hc
        exact next 1 _ ⟨by omega, by omega⟩ (by omega) rfl
      · have hc : s1 ≠ 0 := by simpa using hc
        simp only [go_sem, seval]
        exact fin rfl (limbs_eq hlt (.inr (by omega)))
    · simp only [go_sem, seval, Int.cast_ofNat_Int, wi0, wi1, wi2, wi3]
      refine ex_br (fun hc => ?_) (fun hc => ?_)
      · simp only [go_sem, seval, wi0, wi1, wi2, wi3]
        have hc : s2 = 0 := by simpa using hc
        exact next 2 _ ⟨by omega, by omega⟩ (by omega) rfl
      · have hc : s2 ≠ 0 := by simpa using hc
        simp only [go_sem, seval]
        exact fin rfl (limbs_eq hlt (.inr (by omega)))
    · simp only [go_sem, seval, Int.cast_ofNat_Int, wi0, wi1, wi2, wi3]
      refine ex_br (fun hc => ?_) (fun hc => ?_)
      · simp only [go_sem, seval, wi0, wi1, wi2, wi3]
        have hc : s3 = 0 := by simpa using hc
        exact next 3 _ ⟨by omega, by omega⟩ (by omega) rfl
      · have hc : s3 ≠ 0 := by simpa using hc
        simp only [go_sem, seval]
        exact fin rfl (limbs_eq hlt (.inr (by omega)))
theorem shr_nat (n k : Nat) (hk : k ≤ 64) : (n : Int).fdiv (2 ^ (min k 64)) = ((n / 2 ^ k : Nat) : Int) := by
  rw [show min k 64 = k from Nat.min_eq_left hk, Int.fdiv_eq_ediv_of_nonneg _ (Int.pow_nonneg (by decide))]
  norm_cast
theorem tab_at (x : Nat) (hx : x < 256) : ((([0, 1, 2, 2, 3, 3, 3, 3, 4, 4, 4, 4, 4, 4, 4, 4, 5, 5, 5, 5, 5, 5, 5, 5, 5, 5, 5, 5, 5, 5, 5, 5, 6, 6, 6, 6, 6, 6, 6, 6, 6, 6, 6, 6, 6, 6, 6, 6, 6, 6, 6, 6, 6, 6, 6, 6, 6, 6, 6, 6, 6, 6, 6, 6].append [7, 7, 7, 7, 7, 7, 7, 7, 7, 7, 7, 7, 7, 7, 7, 7, 7, 7, 7, 7, 7, 7, 7, 7, 7, 7, 7, 7, 7, 7, 7, 7, 7, 7, 7, 7, 7, 7, 7, 7, 7, 7, 7, 7, 7, 7, 7, 7, 7, 7, 7, 7, 7, 7, 7, 7, 7, 7, 7, 7, 7, 7, 7, 7]).append ([8, 8, 8, 8, 8, 8, 8, 8, 8, 8, 8, 8, 8, 8, 8, 8, 8, 8, 8, 8, 8, 8, 8, 8, 8, 8, 8, 8, 8, 8, 8, 8, 8, 8, 8, 8, 8, 8, 8, 8, 8, 8, 8, 8, 8, 8, 8, 8, 8, 8, 8, 8, 8, 8, 8, 8, 8, 8, 8, 8, 8, 8, 8, 8].append [8, 8, 8, 8, 8, 8, 8, 8, 8, 8, 8, 8, 8, 8, 8, 8, 8, 8, 8, 8, 8, 8, 8, 8, 8, 8, 8, 8, 8, 8, 8, 8, 8, 8, 8, 8, 8, 8, 8, 8, 8, 8, 8, 8, 8, 8, 8, 8, 8, 8, 8, 8, 8, 8, 8, 8, 8, 8, 8, 8, 8, 8, 8, 8])) : List UInt8)[x]? = some (UInt8.ofNat (bitsOf x)) := by
  have h : (List.range 256).all (fun x => ((([0, 1, 2, 2, 3, 3, 3, 3, 4, 4, 4, 4, 4, 4, 4, 4, 5, 5, 5, 5, 5, 5, 5, 5, 5, 5, 5, 5, 5, 5, 5, 5, 6, 6, 6, 6, 6, 6, 6, 6, 6, 6, 6, 6, 6, 6, 6, 6, 6, 6, 6, 6, 6, 6, 6, 6, 6, 6, 6, 6, 6, 6, 6, 6].append [7, 7, 7, 7, 7, 7, 7, 7, 7, 7, 7, 7, 7, 7, 7, 7, 7, 7, 7, 7, 7, 7, 7, 7, 7, 7, 7, 7, 7, 7, 7, 7, 7, 7, 7, 7, 7, 7, 7, 7, 7, 7, 7, 7, 7, 7, 7, 7, 7, 7, 7, 7, 7, 7, 7, 7, 7, 7, 7, 7, 7, 7, 7, 7]).append ([8, 8, 8, 8, 8, 8, 8, 8, 8, 8, 8, 8, 8, 8, 8, 8, 8, 8, 8, 8, 8, 8, 8, 8, 8, 8, 8, 8, 8, 8, 8, 8, 8, 8, 8, 8, 8, 8, 8, 8, 8, 8, 8, 8, 8, 8, 8, 8, 8, 8, 8, 8, 8, 8, 8, 8, 8, 8, 8, 8, 8, 8, 8, 8].append [8, 8, 8, 8, 8, 8, 8, 8, 8, 8, 8, 8, 8, 8, 8, 8, 8, 8, 8, 8, 8, 8, 8, 8, 8, 8, 8, 8, 8, 8, 8, 8, 8, 8, 8, 8, 8, 8, 8, 8, 8, 8, 8, 8, 8, 8, 8, 8, 8, 8, 8, 8, 8, 8, 8, 8, 8, 8, 8, 8, 8, 8, 8, 8])) : List UInt8)[x]? == some (UInt8.ofNat (bitsOf x))) = true := by kernel_rfl
  have := List.all_eq_true.1 h x (List.mem_range.2 hx)
  simpa using this
theorem tab_len : ((([0, 1, 2, 2, 3, 3, 3, 3, 4, 4, 4, 4, 4, 4, 4, 4, 5, 5, 5, 5, 5, 5, 5, 5, 5, 5, 5, 5, 5, 5, 5, 5, 6, 6, 6, 6, 6, 6, 6, 6, 6, 6, 6, 6, 6, 6, 6, 6, 6, 6, 6, 6, 6, 6, 6, 6, 6, 6, 6, 6, 6, 6, 6, 6].append [7, 7, 7, 7, 7, 7, 7, 7, 7, 7, 7, 7, 7, 7, 7, 7, 7, 7, 7, 7, 7, 7, 7, 7, 7, 7, 7, 7, 7, 7, 7, 7, 7, 7, 7, 7, 7, 7, 7, 7, 7, 7, 7, 7, 7, 7, 7, 7, 7, 7, 7, 7, 7, 7, 7, 7, 7, 7, 7, 7, 7, 7, 7, 7]).append ([8, 8, 8, 8, 8, 8, 8, 8, 8, 8, 8, 8, 8, 8, 8, 8, 8, 8, 8, 8, 8, 8, 8, 8, 8, 8, 8, 8, 8, 8, 8, 8, 8, 8, 8, 8, 8, 8, 8, 8, 8, 8, 8, 8, 8, 8, 8, 8, 8, 8, 8, 8, 8, 8, 8, 8, 8, 8, 8, 8, 8, 8, 8, 8].append [8, 8, 8, 8, 8, 8, 8, 8, 8, 8, 8, 8, 8, 8, 8, 8, 8, 8, 8, 8, 8, 8, 8, 8, 8, 8, 8, 8, 8, 8, 8, 8, 8, 8, 8, 8, 8, 8, 8, 8, 8, 8, 8, 8, 8, 8, 8, 8, 8, 8, 8, 8, 8, 8, 8, 8, 8, 8, 8, 8, 8, 8, 8, 8])) : List UInt8).length = 256 := by kernel_rfl
theorem bits_8 {n : Nat} (h : n < 256) : bitsOf n ≤ 8 := (bits_le n 8).2 h
theorem wiK (k : Nat) (h : k ≤ 1000) : IntKind.i64.wrap (k : Int) = (k : Int) := wi64 (by omega) (by omega)
theorem wi64k : IntKind.i64.wrap 64 = 64 := by decide
theorem wi128k : IntKind.i64.wrap 128 = 128 := by decide
theorem wi192k : IntKind.i64.wrap 192 = 192 := by decide
theorem w8_bits {x : Nat} (h : x < 256) : IntKind.i64.wrap ((UInt8.ofNat (bitsOf x)).toNat : Int) = (bitsOf x : Int) := by
  have := bits_8 h
  rw [show (UInt8.ofNat (bitsOf x)).toNat = bitsOf x by rw [UInt8.toNat_ofNat']; omega]
  exact wi64 (by omega) (by omega)
theorem wi8 : IntKind.i64.wrap 8 = 8 := by decide
theorem wi16 : IntKind.i64.wrap 16 = 16 := by decide
theorem wi24 : IntKind.i64.wrap 24 = 24 := by decide
theorem wi40 : IntKind.i64.wrap 40 = 40 := by decide
theorem wi48 : IntKind.i64.wrap 48 = 48 := by decide
theorem wi56 : IntKind.i64.wrap 56 = 56 := by decide
theorem bits_ge {n k : Nat} (h : 2 ^ k ≤ n) : k < bitsOf n := by
  have := bits_le n k
  omega
theorem c_Len64 (n : Nat) (hn : n < 18446744073709551616) : Contract Try.prog 37 [.int .u64 n] (.int .i64 (bitsOf n)) := by
  have d32 := bits_div n 32
  have d16 := bits_div n 16
  have d8 := bits_div n 8
  have d3216 := bits_div (n / 2 ^ 32) 16
  have d328 := bits_div (n / 2 ^ 32) 8
  have d168 := bits_div (n / 2 ^ 16) 8
  have d32168 := bits_div (n / 2 ^ 32 / 2 ^ 16) 8
  refine contract_of (C := cf 25 [0, 2, 4, 8, 14] (fun _ => [])) (cf_ok _ _ _) (fn := Try.f37) Try.func37 (by kernel_rfl) rfl (by kernel_rfl) (by simp [cf]) (plain1 (.int _ _)) (by decide) (noCell (by kernel_rfl)) ?_
  simp only [go_sem, seval]
  have s32 := shr_nat n 32 (by decide)
  have s16 := shr_nat n 16 (by decide)
  have s8 := shr_nat n 8 (by decide)
  have s3216 := shr_nat (n / 2 ^ 32) 16 (by decide)
  have s328 := shr_nat (n / 2 ^ 32) 8 (by decide)
  have s168 := shr_nat (n / 2 ^ 16) 8 (by decide)
  have s32168 := shr_nat (n / 2 ^ 32 / 2 ^ 16) 8 (by decide)
  refine ex_br (fun e1 => ?_) (fun e1 => ?_)
  · simp only [decide_eq_true_eq, decide_eq_false_iff_not] at e1
    simp only [go_sem, seval, s32, s16, s8, s3216, s328, s168, s32168, wi8, wi16, wi24, wi40, wi48, wi56]
    refine ex_br (fun e2 => ?_) (fun e2 => ?_)
    · simp only [decide_eq_true_eq, decide_eq_false_iff_not] at e2
      simp only [go_sem, seval, s32, s16, s8, s3216, s328, s168, s32168, wi8, wi16, wi24, wi40, wi48, wi56]
      refine ex_br (fun e3 => ?_) (fun e3 => ?_)
      · simp only [decide_eq_true_eq, decide_eq_false_iff_not] at e3
        have hx : n / 2 ^ 32 / 2 ^ 16 / 2 ^ 8 < 256 := by omega
        have wx : IntKind.u8.wrap ((n / 2 ^ 32 / 2 ^ 16 / 2 ^ 8 : Nat) : Int) = ((n / 2 ^ 32 / 2 ^ 16 / 2 ^ 8 : Nat) : Int) := wu8 (by omega) (by omega)
        have hb := bits_ge (n := n) (k := 56) (by omega)
        have hb2 := bits_8 hx
        have hfin : IntKind.i64.wrap ((56 : Int) + (bitsOf (n / 2 ^ 32 / 2 ^ 16 / 2 ^ 8) : Int)) = (bitsOf n : Int) := by rw [wi64 (by omega) (by omega)]; omega
        simp only [go_sem, seval, s32, s16, s8, s3216, s328, s168, s32168, wi8, wi16, wi24, wi40, wi48, wi56, wx, Int.toNat_natCast, tab_len, tab_at _ hx, w8_bits hx, hfin, Int.zero_add]
        refine ⟨⟨by omega, by omega⟩, ?_⟩
        refine finOne ?_ (fun _ e => by cases e)
        show resOf _ _ [.tmp 2] = _
        simp only [go_sem, seval]
      · simp only [decide_eq_true_eq, decide_eq_false_iff_not] at e3
        have hx : n / 2 ^ 32 / 2 ^ 16 < 256 := by omega
        have wx : IntKind.u8.wrap ((n / 2 ^ 32 / 2 ^ 16 : Nat) : Int) = ((n / 2 ^ 32 / 2 ^ 16 : Nat) : Int) := wu8 (by omega) (by omega)
        have hb := bits_ge (n := n) (k := 48) (by omega)
        have hb2 := bits_8 hx
        have hfin : IntKind.i64.wrap ((48 : Int) + (bitsOf (n / 2 ^ 32 / 2 ^ 16) : Int)) = (bitsOf n : Int) := by rw [wi64 (by omega) (by omega)]; omega
        simp only [go_sem, seval, s32, s16, s8, s3216, s328, s168, s32168, wi8, wi16, wi24, wi40, wi48, wi56, wx, Int.toNat_natCast, tab_len, tab_at _ hx, w8_bits hx, hfin, Int.zero_add]
        refine ⟨⟨by omega, by omega⟩, ?_⟩
        refine finOne ?_ (fun _ e => by cases e)
        show resOf _ _ [.tmp 2] = _
        simp only [go_sem, seval]
    · simp only [decide_eq_true_eq, decide_eq_false_iff_not] at e2
      simp only [go_sem, seval, s32, s16, s8, s3216, s328, s168, s32168, wi8, wi16, wi24, wi40, wi48, wi56]
      refine ex_br (fun e3 => ?_) (fun e3 => ?_)
      · simp only [decide_eq_true_eq, decide_eq_false_iff_not] at e3
        have hx : n / 2 ^ 32 / 2 ^ 8 < 256 := by omega
        have wx : IntKind.u8.wrap ((n / 2 ^ 32 / 2 ^ 8 : Nat) : Int) = ((n / 2 ^ 32 / 2 ^ 8 : Nat) : Int) := wu8 (by omega) (by omega)
        have hb := bits_ge (n := n) (k := 40) (by omega)
        have hb2 := bits_8 hx
        have hfin : IntKind.i64.wrap ((40 : Int) + (bitsOf (n / 2 ^ 32 / 2 ^ 8) : Int)) = (bitsOf n : Int) := by rw [wi64 (by omega) (by omega)]; omega
        simp only [go_sem, seval, s32, s16, s8, s3216, s328, s168, s32168, wi8, wi16, wi24, wi40, wi48, wi56, wx, Int.toNat_natCast, tab_len, tab_at _ hx, w8_bits hx, hfin, Int.zero_add]
        refine ⟨⟨by omega, by omega⟩, ?_⟩
        refine finOne ?_ (fun _ e => by cases e)
        show resOf _ _ [.tmp 2] = _
        simp only [go_sem, seval]
      · simp only [decide_eq_true_eq, decide_eq_false_iff_not] at e3
        have hx : n / 2 ^ 32 < 256 := by omega
        have wx : IntKind.u8.wrap ((n / 2 ^ 32 : Nat) : Int) = ((n / 2 ^ 32 : Nat) : Int) := wu8 (by omega) (by omega)
        have hb := bits_ge (n := n) (k := 32) (by omega)
        have hb2 := bits_8 hx
        have hfin : IntKind.i64.wrap ((32 : Int) + (bitsOf (n / 2 ^ 32) : Int)) = (bitsOf n : Int) := by rw [wi64 (by omega) (by omega)]; omega
        simp only [go_sem, seval, s32, s16, s8, s3216, s328, s168, s32168, wi8, wi16, wi24, wi40, wi48, wi56, wx, Int.toNat_natCast, tab_len, tab_at _ hx, w8_bits hx, hfin, Int.zero_add]
        refine ⟨⟨by omega, by omega⟩, ?_⟩
        refine finOne ?_ (fun _ e => by cases e)
        show resOf _ _ [.tmp 2] = _
        simp only [go_sem, seval]
  · simp only [decide_eq_true_eq, decide_eq_false_iff_not] at e1
    simp only [go_sem, seval, s32, s16, s8, s3216, s328, s168, s32168, wi8, wi16, wi24, wi40, wi48, wi56]
    refine ex_br (fun e2 => ?_) (fun e2 => ?_)
    · simp only [decide_eq_true_eq, decide_eq_false_iff_not] at e2
      simp only [go_sem, seval, s32, s16, s8, s3216, s328, s168, s32168, wi8, wi16, wi24, wi40, wi48, wi56]
      refine ex_br (fun e3 => ?_) (fun e3 => ?_)
      · simp only [decide_eq_true_eq, decide_eq_false_iff_not] at e3
        have hx : n / 2 ^ 16 / 2 ^ 8 < 256 := by omega
        have wx : IntKind.u8.wrap ((n / 2 ^ 16 / 2 ^ 8 : Nat) : Int) = ((n / 2 ^ 16 / 2 ^ 8 : Nat) : Int) := wu8 (by omega) (by omega)
        have hb := bits_ge (n := n) (k := 24) (by omega)
        have hb2 := bits_8 hx
        have hfin : IntKind.i64.wrap ((24 : Int) + (bitsOf (n / 2 ^ 16 / 2 ^ 8) : Int)) = (bitsOf n : Int) := by rw [wi64 (by omega) (by omega)]; omega
        simp only [go_sem, seval, s32, s16, s8, s3216, s328, s168, s32168, wi8, wi16, wi24, wi40, wi48, wi56, wx, Int.toNat_natCast, tab_len, tab_at _ hx, w8_bits hx, hfin, Int.zero_add]
        refine ⟨⟨by omega, by omega⟩, ?_⟩
        refine finOne ?_ (fun _ e => by cases e)
        show resOf _ _ [.tmp 2] = _
        simp only [go_sem, seval]
      · simp only [decide_eq_true_eq, decide_eq_false_iff_not] at e3
        have hx : n / 2 ^ 16 < 256 := by omega
        have wx : IntKind.u8.wrap ((n / 2 ^ 16 : Nat) : Int) = ((n / 2 ^ 16 : Nat) : Int) := wu8 (by omega) (by omega)
        have hb := bits_ge (n := n) (k := 16) (by omega)
        have hb2 := bits_8 hx
        have hfin : IntKind.i64.wrap ((16 : Int) + (bitsOf (n / 2 ^ 16) : Int)) = (bitsOf n : Int) := by rw [wi64 (by omega) (by omega)]; omega
        simp only [go_sem, seval, s32, s16, s8, s3216, s328, s168, s32168, wi8, wi16, wi24, wi40, wi48, wi56, wx, Int.toNat_natCast, tab_len, tab_at _ hx, w8_bits hx, hfin, Int.zero_add]
        refine ⟨⟨by omega, by omega⟩, ?_⟩
        refine finOne ?_ (fun _ e => by cases e)
        show resOf _ _ [.tmp 2] = _
        simp only [go_sem, seval]
    · simp only [decide_eq_true_eq, decide_eq_false_iff_not] at e2
      simp only [go_sem, seval, s32, s16, s8, s3216, s328, s168, s32168, wi8, wi16, wi24, wi40, wi48, wi56]
      refine ex_br (fun e3 => ?_) (fun e3 => ?_)
      · simp only [decide_eq_true_eq, decide_eq_false_iff_not] at e3
        have hx : n / 2 ^ 8 < 256 := by omega
        have wx : IntKind.u8.wrap ((n / 2 ^ 8 : Nat) : Int) = ((n / 2 ^ 8 : Nat) : Int) := wu8 (by omega) (by omega)
        have hb := bits_ge (n := n) (k := 8) (by omega)
        have hb2 := bits_8 hx
        have hfin : IntKind.i64.wrap ((8 : Int) + (bitsOf (n / 2 ^ 8) : Int)) = (bitsOf n : Int) := by rw [wi64 (by omega) (by omega)]; omega
        simp only [go_sem, seval, s32, s16, s8, s3216, s328, s168, s32168, wi8, wi16, wi24, wi40, wi48, wi56, wx, Int.toNat_natCast, tab_len, tab_at _ hx, w8_bits hx, hfin, Int.zero_add]
        refine ⟨⟨by omega, by omega⟩, ?_⟩
        refine finOne ?_ (fun _ e => by cases e)
        show resOf _ _ [.tmp 2] = _
        simp only [go_sem, seval]
      · simp only [decide_eq_true_eq, decide_eq_false_iff_not] at e3
        have hx : n < 256 := by omega
        have wx : IntKind.u8.wrap ((n : Nat) : Int) = ((n : Nat) : Int) := wu8 (by omega) (by omega)
        have hb2 := bits_8 hx
        have hfin : IntKind.i64.wrap ((0 : Int) + (bitsOf (n) : Int)) = (bitsOf n : Int) := by rw [wi64 (by omega) (by omega)]; omega
        rw [Int.zero_add] at hfin
        simp only [go_sem, seval, s32, s16, s8, s3216, s328, s168, s32168, wi8, wi16, wi24, wi40, wi48, wi56, wx, Int.toNat_natCast, tab_len, tab_at _ hx, w8_bits hx, hfin, Int.zero_add]
        refine ⟨⟨by omega, by omega⟩, ?_⟩
        refine finOne ?_ (fun _ e => by cases e)
        show resOf _ _ [.tmp 2] = _
        simp only [go_sem, seval]
end Go.Proofs.Ytmngjlgeojbghaa.VA
end
section
namespace Go.Proofs.Ytmngjlgeojbghaa.VA
set_option maxRecDepth 10000
set_option maxHeartbeats 4000000

theorem wi64n (n : Nat) (h : n < 9223372036854775808) : IntKind.i64.wrap (n : Int) = (n : Int) := wi64 (by omega) (by omega)
theorem c_u256_Bits (n : Nat) (hn : n < U) : Contract Try.prog 35 [u n] (.int .i64 (bitsOf n)) := by
  have hc := c_u256_limbs n hn
  obtain ⟨s0, s1, s2, s3, h0, h1, h2, h3, en⟩ := u_limbs n hn
  have hle : bitsOf n ≤ 256 := (bits_le n 256).2 (by unfold U at hn; omega)
  have hb := bits_le n 0
  have hb1 := bits_le n 64
  have hb2 := bits_le n 128
  have hb3 := bits_le n 192
  have hl : limbsOf n = (bitsOf n + 63) / 64 := rfl
  rw [u_eq h0 h1 h2 h3 en] at hc ⊢
  refine contract_of (C := cf 17 [1, 2, 3, 7] (fun _ => [])) (cf_ok _ _ _) (fn := Try.f35) Try.func35 (by kernel_rfl) rfl (by kernel_rfl) (by simp [cf]) (plain1 (u4_plain _ _ _ _)) (by decide) (noCell (by kernel_rfl)) ?_
  simp only [go_sem, seval]
  refine ex_call (by exact hc) ?_
  have d1 := bits_div n 64
  have d2 := bits_div n 128
  have d3 := bits_div n 192
  obtain e | e | e | e | e : limbsOf n = 0 ∨ limbsOf n = 1 ∨ limbsOf n = 2 ∨ limbsOf n = 3 ∨ limbsOf n = 4 := by omega
  · rw [show (limbsOf n : Int) = 0 by omega]
    simp only [go_sem, seval]
    have e0 : (bitsOf n : Int) = 0 := by omega
    rw [e0]
    refine finOne ?_ (fun _ e => by cases e)
    show resOf _ _ [.tmp 2] = _
    simp only [go_sem, seval]
  · rw [show (limbsOf n : Int) = 1 by omega]
    have e0 : n = s0 := by omega
    have w : IntKind.i64.wrap (0 + (bitsOf s0 : Int)) = bitsOf n := by rw [← e0, wi64 (by omega) (by omega)]; omega
    rw [Int.zero_add] at w
    simp only [go_sem, seval, wi0, wi1, wi2, wi3]
    repeat with_reducible refine And.intro (by first | omega | (simp only [List.length_cons, List.length_append, List.length_nil, List.length_map, List.length_take, List.length_drop, List.length_set]; omega)) ?_
    refine ex_call (by exact c_Len64 s0 h0) ?_
    simp only [go_sem, seval, w, Int.zero_add]
    refine finOne ?_ (fun _ e => by cases e)
    show resOf _ _ [.tmp 2] = _
    simp only [go_sem, seval]
  · rw [show (limbsOf n : Int) = 2 by omega]
    have e0 : n / 2 ^ 64 = s1 := by omega
    have w : IntKind.i64.wrap (64 + (bitsOf s1 : Int)) = bitsOf n := by rw [← e0, wi64 (by omega) (by omega)]; omega
    simp only [go_sem, seval, wi0, wi1, wi2, wi3, wi64k]
    repeat with_reducible refine And.intro (by first | omega | (simp only [List.length_cons, List.length_append, List.length_nil, List.length_map, List.length_take, List.length_drop, List.length_set]; omega)) ?_
    refine ex_call (by exact c_Len64 s1 h1) ?_
    simp only [go_sem, seval, w]
    refine finOne ?_ (fun _ e => by cases e)
    show resOf _ _ [.tmp 2] = _
    simp only [go_sem, seval]
  · rw [show (limbsOf n : Int) = 3 by omega]
    have e0 : n / 2 ^ 128 = s2 := by omega
    have w : IntKind.i64.wrap (128 + (bitsOf s2 : Int)) = bitsOf n := by rw [← e0, wi64 (by omega) (by omega)]; omega
    simp only [go_sem, seval, wi0, wi1, wi2, wi3, wi128k]
    repeat with_reducible refine And.intro (by first | omega | (simp only [List.length_cons, List.length_append, List.length_nil, List.length_map, List.length_take, List.length_drop, List.length_set]; omega)) ?_
    refine ex_call (by exact c_Len64 s2 h2) ?_
    simp only [go_sem, seval, w]
    refine finOne ?_ (fun _ e => by cases e)
    show resOf _ _ [.tmp 2] = _
    simp only [go_sem, seval]
  · rw [show (limbsOf n : Int) = 4 by omega]
    have e0 : n / 2 ^ 192 = s3 := by omega
    have w : IntKind.i64.wrap (192 + (bitsOf s3 : Int)) = bitsOf n := by rw [← e0, wi64 (by omega) (by omega)]; omega
    simp only [go_sem, seval, wi0, wi1, wi2, wi3, wi192k]
    repeat with_reducible refine And.intro (by first | omega | (simp only [List.length_cons, List.length_append, List.length_nil, List.length_map, List.length_take, List.length_drop, List.length_set]; omega)) ?_
    refine ex_call (by exact c_Len64 s3 h3) ?_
    simp only [go_sem, seval, w]
    refine finOne ?_ (fun _ e => by cases e)
    show resOf _ _ [.tmp 2] = _
    simp only [go_sem, seval]
theorem limb_at (n j : Nat) (h : j < 4) : ([.int .u64 (lim n 0), .int .u64 (lim n 1), .int .u64 (lim n 2), .int .u64 (lim n 3)] : List AV)[j]? = some (.int .u64 (lim n j)) := by
  obtain rfl | rfl | rfl | rfl : j = 0 ∨ j = 1 ∨ j = 2 ∨ j = 3 := by omega
  all_goals rfl
theorem lim_byte (n i : Nat) : (n / 2 ^ (64 * (i / 8)) % 18446744073709551616) / 2 ^ (i % 8 * 8) % 256 = n / 256 ^ i % 256 := by
  have e1 : 18446744073709551616 = 2 ^ (i % 8 * 8) * 2 ^ (64 - i % 8 * 8) := by
    rw [← Nat.pow_add, show i % 8 * 8 + (64 - i % 8 * 8) = 64 by omega]
  have e2 : (256 : Nat) ^ i = 2 ^ (64 * (i / 8)) * 2 ^ (i % 8 * 8) := by
    rw [← Nat.pow_add, show (256 : Nat) = 2 ^ 8 by decide, ← Nat.pow_mul]
    congr 1; omega
  rw [e1, Nat.mod_mul_right_div_self, Nat.div_div_eq_div_mul, ← e2]
  refine Nat.mod_mod_of_dvd _ ?_
  rw [show (256 : Nat) = 2 ^ 8 by decide]
  exact Nat.pow_dvd_pow 2 (by omega)
def fill (n k i : Nat) : List AV := List.replicate (k - i) (u8 0) ++ (low i n).map u8
theorem fill_len {n k i : Nat} (h : i ≤ k) : (fill n k i).length = k := by unfold fill; simp [low_len]; omega
theorem fill_set (n k i : Nat) (h : i < k) : (fill n k i).set (k - 1 - i) (.int .u8 ((n / 256 ^ i % 256 : Nat) : Int)) = fill n k (i + 1) := by
  unfold fill
  rw [show (AV.int .u8 ((n / 256 ^ i % 256 : Nat) : Int)) = u8 (UInt8.ofNat (n / 256 ^ i)) by unfold u8; rw [UInt8.toNat_ofNat']]
  rw [show k - i = (k - (i + 1)) + 1 by omega, List.replicate_succ', List.append_assoc, List.set_append_right _ _ (by simp; omega)]
  simp only [List.length_replicate]
  rw [show k - 1 - i - (k - (i + 1)) = 0 by omega, low]
  rfl
theorem fill_get {n k i j : Nat} (h : i ≤ k) (hj : j < k) : ∃ e, (fill n k i)[j]? = some e := ⟨_, List.getElem?_eq_getElem (by rw [fill_len h]; exact hj)⟩
theorem fill_zero (n k : Nat) : fill n k 0 = List.replicate k (.int .u8 0) := by unfold fill; simp [low, u8]
theorem fill_end (n k : Nat) : fill n k k = (low k n).map u8 := by unfold fill; simp
theorem limb_byte (n i : Nat) : IntKind.u8.wrap ((lim n (i / 8)).fdiv (2 ^ min (i % 8 * 8) 64)) = ((n / 256 ^ i % 256 : Nat) : Int) := by
  unfold lim
  rw [shr_nat _ _ (by omega), ← lim_byte]
  show (((_ : Nat) : Int) % 256 : Int) = _
  omega
theorem c_u256_Text (n : Nat) (hn : n < U) : Contract Try.prog 34 [u n] (.str (bytesOf n)) := by
  have hle : bitsOf n ≤ 256 := (bits_le n 256).2 (by unfold U at hn; omega)
  have hc := c_u256_Bits n hn
  unfold u at hc ⊢
  refine contract_of (C := cf 34 [1, 2, 3, 4, 11, 12, 13] (fun _ => [])) (cf_ok _ _ _) (fn := Try.f34) Try.func34 (by kernel_rfl) rfl (by kernel_rfl) (by simp [cf]) (plain1 (u4_plain _ _ _ _)) (by decide) (noCell (by kernel_rfl)) ?_
  have w1 : IntKind.i64.wrap ((bitsOf n : Int) + 7) = ((bitsOf n + 7 : Nat) : Int) := by rw [wi64 (by omega) (by omega)]; omega
  have w2 : ((bitsOf n + 7 : Nat) : Int).tdiv 8 = (byteLen n : Int) := rfl
  have hbl : byteLen n ≤ 32 := by unfold byteLen; omega
  have w3 := wi64n (byteLen n) (by omega)
  simp only [go_sem, seval]
  refine ex_call (by exact hc) ?_
  simp only [go_sem, seval, w1, w2, w3, Int.toNat_natCast]
  repeat with_reducible refine And.intro (by first | omega | (simp only [List.length_cons, List.length_append, List.length_nil, List.length_map, List.length_take, List.length_drop, List.length_set]; omega)) ?_
  refine ex_iter [1, 3, 11, 12] (fun i : Nat => ⟨[(1, .var 1 0), (3, .own false 1 (fill n (byteLen n) i)), (11, .int .i64 (byteLen n)), (12, .int .i64 i)], [(1, [.int .u64 (lim n 0), .int .u64 (lim n 1), .int .u64 (lim n 2), .int .u64 (lim n 3)])], []⟩) (fun i => i ≤ byteLen n) (fun i => byteLen n - i) 0 ?_ ?_ ?_
  · simp only [ASt.keep, consIf, keepL, keepV, AV.isBot, List.contains_cons, List.contains_nil, Nat.reduceBEq, Bool.or_false, Bool.false_or, Bool.or_true, Bool.true_or, beq_self_eq_true, Bool.false_eq_true, ↓reduceIte, if_false, if_true]
    rw [fill_zero, List.length_replicate]
    rfl
  · exact Nat.zero_le _
  · intro r i hi next
    simp only [go_sem, seval]
    refine ex_br (fun h => ?_) (fun h => ?_)
    · have hlt : i < byteLen n := by simpa using h
      have wq : (i : Int).tdiv 8 = ((i / 8 : Nat) : Int) := rfl
      have wr : (i : Int).tmod 8 = ((i % 8 : Nat) : Int) := rfl
      have wq2 := wi64n (i / 8) (by omega)
      have wm : IntKind.i64.wrap (((i % 8 : Nat) : Int) * 8) = ((i % 8 * 8 : Nat) : Int) := by rw [wi64 (by omega) (by omega)]; omega
      have ws1 : IntKind.i64.wrap ((byteLen n : Int) - 1) = ((byteLen n - 1 : Nat) : Int) := by rw [wi64 (by omega) (by omega)]; omega
      have ws2 : IntKind.i64.wrap (((byteLen n - 1 : Nat) : Int) - (i : Int)) = ((byteLen n - 1 - i : Nat) : Int) := by rw [wi64 (by omega) (by omega)]; omega
      have hlen : (fill n (byteLen n) i).length = byteLen n := fill_len hi
      obtain ⟨e, he⟩ := fill_get (n := n) hi (show byteLen n - 1 - i < byteLen n by omega)
      simp only [go_sem, seval, wq, wr, wq2, wm, ws1, ws2, hlen, Int.toNat_natCast, limb_at n _ (show i / 8 < 4 by omega)]
      repeat with_reducible refine And.intro (by first | omega | (simp only [List.length_cons, List.length_append, List.length_nil, List.length_map, List.length_take, List.length_drop, List.length_set]; omega)) ?_
      simp only [go_sem, seval, wq, wr, wq2, wm, ws1, ws2, hlen, Int.toNat_natCast, he, limb_byte, fill_set n _ _ hlt]
      refine next (i + 1) _ (by omega) (by omega) ?_
      rw [← wi64_nat i (by omega)]
      simp only [ASt.keep, consIf, keepL, keepV, AV.isBot, List.contains_cons, List.contains_nil, Nat.reduceBEq, Bool.or_false, Bool.false_or, Bool.or_true, Bool.true_or, beq_self_eq_true, Bool.false_eq_true, ↓reduceIte, if_false, if_true]
    · have hge : i = byteLen n := by simp at h; omega
      subst hge
      rw [fill_end]
      simp only [go_sem, seval, asU8_map]
      refine finOne ?_ (fun _ e => by cases e)
      show resOf _ _ [.tmp 2] = _
      simp only [go_sem, seval, bytesOf]
end Go.Proofs.Ytmngjlgeojbghaa.VA
end
section
namespace Go.Proofs.Ytmngjlgeojbghaa.VA
set_option maxRecDepth 10000
set_option maxHeartbeats 4000000

theorem low_take {n L j : Nat} (h1 : 1 ≤ j) (h2 : j ≤ L) : (low L n).take (L - j) ++ [UInt8.ofNat (n / 256 ^ (j - 1))] = (low L n).take (L - (j - 1)) := by
  rw [show L - (j - 1) = (L - j) + 1 by omega, List.take_add_one, low_get L n _ (by omega)]
  rw [show L - 1 - (L - j) = j - 1 by omega]; rfl
theorem u8_ofNat (m : Nat) : u8 (UInt8.ofNat m) = .int .u8 ((m % 256 : Nat) : Int) := by unfold u8; rw [UInt8.toNat_ofNat']
end Go.Proofs.Ytmngjlgeojbghaa.VA
end
section
namespace Go.Proofs.Ytmngjlgeojbghaa.VA
set_option maxRecDepth 10000
set_option maxHeartbeats 4000000

theorem lt_U {n : Nat} (h : n < 9223372036854775808) : n < U := by unfold U; omega
theorem c_item_size (n : Nat) (h : n < 9223372036854775808) : Contract Try.prog 30 [.int .i64 n] (.str (bytesOf n)) := by
  have h1 := c_u256_Of n h
  have h2 := c_u256_Text n (lt_U h)
  rw [u_small n (by omega)] at h1 h2
  refine contract_of (C := cf 12 [0, 2, 3] (fun _ => [])) (cf_ok _ _ _) (fn := Try.f30) Try.func30 (by kernel_rfl) rfl (by kernel_rfl) (by simp [cf]) (plain1 (.int _ _)) (by decide) (noCell (by kernel_rfl)) ?_
  simp only [go_sem, ↓reduceIte, Nat.reduceLT, Nat.reduceLeDiff, Nat.reduceAdd, Nat.reduceSub, Nat.reduceMul, Nat.reduceEqDiff, Nat.reduceBEq, Nat.reduceMod, Nat.reduceDiv, Int.reduceToNat, reduceCtorEq, Int.reduceLT, Int.reduceLE, Int.reduceGT, Int.reduceGE, Int.reduceAdd, Int.reduceSub, Int.reduceMul, Int.reduceNeg, Int.reduceEq, Int.reduceNe, Int.reduceBNe, Int.reduceBEq, Int.reduceDiv]
  refine ex_call (by exact h1) ?_
  simp only [go_sem, ↓reduceIte, Nat.reduceLT, Nat.reduceLeDiff, Nat.reduceAdd, Nat.reduceSub, Nat.reduceMul, Nat.reduceEqDiff, Nat.reduceBEq, Nat.reduceMod, Nat.reduceDiv, Int.reduceToNat, reduceCtorEq, Int.reduceLT, Int.reduceLE, Int.reduceGT, Int.reduceGE, Int.reduceAdd, Int.reduceSub, Int.reduceMul, Int.reduceNeg, Int.reduceEq, Int.reduceNe, Int.reduceBNe, Int.reduceBEq, Int.reduceDiv]
  refine ex_call (by exact h2) ?_
  simp only [go_sem, ↓reduceIte, Nat.reduceLT, Nat.reduceLeDiff, Nat.reduceAdd, Nat.reduceSub, Nat.reduceMul, Nat.reduceEqDiff, Nat.reduceBEq, Nat.reduceMod, Nat.reduceDiv, Int.reduceToNat, reduceCtorEq, Int.reduceLT, Int.reduceLE, Int.reduceGT, Int.reduceGE, Int.reduceAdd, Int.reduceSub, Int.reduceMul, Int.reduceNeg, Int.reduceEq, Int.reduceNe, Int.reduceBNe, Int.reduceBEq, Int.reduceDiv]
  refine finOne ?_ (fun _ e => by cases e)
  show resOf _ _ [.tmp 2] = _
  simp only [go_sem, ↓reduceIte, Nat.reduceLT, Nat.reduceLeDiff, Nat.reduceAdd, Nat.reduceSub, Nat.reduceMul, Nat.reduceEqDiff, Nat.reduceBEq, Nat.reduceMod, Nat.reduceDiv, Int.reduceToNat, reduceCtorEq, Int.reduceLT, Int.reduceLE, Int.reduceGT, Int.reduceGE, Int.reduceAdd, Int.reduceSub, Int.reduceMul, Int.reduceNeg, Int.reduceEq, Int.reduceNe, Int.reduceBNe, Int.reduceBEq, Int.reduceDiv]
theorem bytesOf_le {n : Nat} (h : n < 1099511627776) : (bytesOf n).length ≤ 5 := by rw [bytesOf_len]; exact byteLen_small h
theorem c_item_ahead (n : Nat) (h : n < 1099511627776) : Contract Try.prog 27 [.int .i64 n] (.int .i64 (aheadN n)) := by
  have hb := byteLen_small h
  refine contract_of (C := cf 9 [0, 2, 4] (fun _ => [])) (cf_ok _ _ _) (fn := Try.f27) Try.func27 (by kernel_rfl) rfl (by kernel_rfl) (by simp [cf]) (plain1 (.int _ _)) (by decide) (noCell (by kernel_rfl)) ?_
  simp only [go_sem, ↓reduceIte, Nat.reduceLT, Nat.reduceLeDiff, Nat.reduceAdd, Nat.reduceSub, Nat.reduceMul, Nat.reduceEqDiff, Nat.reduceBEq, Nat.reduceMod, Nat.reduceDiv, Int.reduceToNat, reduceCtorEq, Int.reduceLT, Int.reduceLE, Int.reduceGT, Int.reduceGE, Int.reduceAdd, Int.reduceSub, Int.reduceMul, Int.reduceNeg, Int.reduceEq, Int.reduceNe, Int.reduceBNe, Int.reduceBEq, Int.reduceDiv]
  unfold aheadN
  refine ex_br (fun e => ?_) (fun e => ?_)
  · have e : n ≤ 55 := by simp at e; omega
    rw [if_pos e]
    simp only [go_sem, ↓reduceIte, Nat.reduceLT, Nat.reduceLeDiff, Nat.reduceAdd, Nat.reduceSub, Nat.reduceMul, Nat.reduceEqDiff, Nat.reduceBEq, Nat.reduceMod, Nat.reduceDiv, Int.reduceToNat, reduceCtorEq, Int.reduceLT, Int.reduceLE, Int.reduceGT, Int.reduceGE, Int.reduceAdd, Int.reduceSub, Int.reduceMul, Int.reduceNeg, Int.reduceEq, Int.reduceNe, Int.reduceBNe, Int.reduceBEq, Int.reduceDiv]
    refine finOne ?_ (fun _ e => by cases e)
    show resOf _ _ [.tmp 2] = _
    simp only [go_sem, ↓reduceIte, Nat.reduceLT, Nat.reduceLeDiff, Nat.reduceAdd, Nat.reduceSub, Nat.reduceMul, Nat.reduceEqDiff, Nat.reduceBEq, Nat.reduceMod, Nat.reduceDiv, Int.reduceToNat, reduceCtorEq, Int.reduceLT, Int.reduceLE, Int.reduceGT, Int.reduceGE, Int.reduceAdd, Int.reduceSub, Int.reduceMul, Int.reduceNeg, Int.reduceEq, Int.reduceNe, Int.reduceBNe, Int.reduceBEq, Int.reduceDiv]
    rfl
  · have e : ¬ n ≤ 55 := by simp at e; omega
    rw [if_neg e]
    have w : IntKind.i64.wrap (1 + (byteLen n : Int)) = ((1 + byteLen n : Nat) : Int) := by rw [wi64 (by omega) (by omega)]; omega
    simp only [go_sem, ↓reduceIte, Nat.reduceLT, Nat.reduceLeDiff, Nat.reduceAdd, Nat.reduceSub, Nat.reduceMul, Nat.reduceEqDiff, Nat.reduceBEq, Nat.reduceMod, Nat.reduceDiv, Int.reduceToNat, reduceCtorEq, Int.reduceLT, Int.reduceLE, Int.reduceGT, Int.reduceGE, Int.reduceAdd, Int.reduceSub, Int.reduceMul, Int.reduceNeg, Int.reduceEq, Int.reduceNe, Int.reduceBNe, Int.reduceBEq, Int.reduceDiv]
    refine ex_call (by exact c_item_size n (by omega)) ?_
    simp only [go_sem, ↓reduceIte, Nat.reduceLT, Nat.reduceLeDiff, Nat.reduceAdd, Nat.reduceSub, Nat.reduceMul, Nat.reduceEqDiff, Nat.reduceBEq, Nat.reduceMod, Nat.reduceDiv, Int.reduceToNat, reduceCtorEq, Int.reduceLT, Int.reduceLE, Int.reduceGT, Int.reduceGE, Int.reduceAdd, Int.reduceSub, Int.reduceMul, Int.reduceNeg, Int.reduceEq, Int.reduceNe, Int.reduceBNe, Int.reduceBEq, Int.reduceDiv, bytesOf_len, w]
    refine finOne ?_ (fun _ e => by cases e)
    show resOf _ _ [.tmp 2] = _
    simp only [go_sem, ↓reduceIte, Nat.reduceLT, Nat.reduceLeDiff, Nat.reduceAdd, Nat.reduceSub, Nat.reduceMul, Nat.reduceEqDiff, Nat.reduceBEq, Nat.reduceMod, Nat.reduceDiv, Int.reduceToNat, reduceCtorEq, Int.reduceLT, Int.reduceLE, Int.reduceGT, Int.reduceGE, Int.reduceAdd, Int.reduceSub, Int.reduceMul, Int.reduceNeg, Int.reduceEq, Int.reduceNe, Int.reduceBNe, Int.reduceBEq, Int.reduceDiv]
theorem alone_eq (s : List UInt8) : aloneB s = (decide (s.length = 1) && decide ((s[0]?.getD 0).toNat < 128)) := by
  match s with
  | [] => rfl
  | [b] => simp [aloneB]
  | a :: b :: t => simp [aloneB]
theorem c_item_alone (s : List UInt8) (h : s.length ≤ 9223372036854775807) : Contract Try.prog 25 [.str s] (.bool (aloneB s)) := by
  refine contract_of (C := cf 11 [0, 2] (fun _ => [])) (cf_ok _ _ _) (fn := Try.f25) Try.func25 (by kernel_rfl) rfl (by kernel_rfl) (by simp [cf]) (plain1 (.str _)) (by decide) (noCell (by kernel_rfl)) ?_
  simp only [go_sem, ↓reduceIte, Nat.reduceLT, Nat.reduceLeDiff, Nat.reduceAdd, Nat.reduceSub, Nat.reduceMul, Nat.reduceEqDiff, Nat.reduceBEq, Nat.reduceMod, Nat.reduceDiv, Int.reduceToNat, reduceCtorEq, Int.reduceLT, Int.reduceLE, Int.reduceGT, Int.reduceGE, Int.reduceAdd, Int.reduceSub, Int.reduceMul, Int.reduceNeg, Int.reduceEq, Int.reduceNe, Int.reduceBNe, Int.reduceBEq, Int.reduceDiv]
  rcases Decidable.em (s.length = 1) with e | e
  · match s, e with
    | [b], _ =>
      have hb : decide ((b.toNat : Int) < 128) = aloneB [b] := by unfold aloneB; exact decide_congr (by omega)
      simp only [go_sem, ↓reduceIte, Nat.reduceLT, Nat.reduceLeDiff, Nat.reduceAdd, Nat.reduceSub, Nat.reduceMul, Nat.reduceEqDiff, Nat.reduceBEq, Nat.reduceMod, Nat.reduceDiv, Int.reduceToNat, reduceCtorEq, Int.reduceLT, Int.reduceLE, Int.reduceGT, Int.reduceGE, Int.reduceAdd, Int.reduceSub, Int.reduceMul, Int.reduceNeg, Int.reduceEq, Int.reduceNe, Int.reduceBNe, Int.reduceBEq, Int.reduceDiv, hb, Int.cast_ofNat_Int]
      refine finOne ?_ (fun _ e => by cases e)
      show resOf _ _ [.tmp 2] = _
      simp only [go_sem, ↓reduceIte, Nat.reduceLT, Nat.reduceLeDiff, Nat.reduceAdd, Nat.reduceSub, Nat.reduceMul, Nat.reduceEqDiff, Nat.reduceBEq, Nat.reduceMod, Nat.reduceDiv, Int.reduceToNat, reduceCtorEq, Int.reduceLT, Int.reduceLE, Int.reduceGT, Int.reduceGE, Int.reduceAdd, Int.reduceSub, Int.reduceMul, Int.reduceNeg, Int.reduceEq, Int.reduceNe, Int.reduceBNe, Int.reduceBEq, Int.reduceDiv]
  · have e1 : ((s.length : Int) == 1) = false := by simpa using (by omega : ¬ (s.length : Int) = 1)
    have e2 : aloneB s = false := by rw [alone_eq, decide_eq_false e]; rfl
    rw [e1, e2]
    simp only [go_sem, ↓reduceIte, Nat.reduceLT, Nat.reduceLeDiff, Nat.reduceAdd, Nat.reduceSub, Nat.reduceMul, Nat.reduceEqDiff, Nat.reduceBEq, Nat.reduceMod, Nat.reduceDiv, Int.reduceToNat, reduceCtorEq, Int.reduceLT, Int.reduceLE, Int.reduceGT, Int.reduceGE, Int.reduceAdd, Int.reduceSub, Int.reduceMul, Int.reduceNeg, Int.reduceEq, Int.reduceNe, Int.reduceBNe, Int.reduceBEq, Int.reduceDiv]
    refine finOne ?_ (fun _ e => by cases e)
    show resOf _ _ [.tmp 2] = _
    simp only [go_sem, ↓reduceIte, Nat.reduceLT, Nat.reduceLeDiff, Nat.reduceAdd, Nat.reduceSub, Nat.reduceMul, Nat.reduceEqDiff, Nat.reduceBEq, Nat.reduceMod, Nat.reduceDiv, Int.reduceToNat, reduceCtorEq, Int.reduceLT, Int.reduceLE, Int.reduceGT, Int.reduceGE, Int.reduceAdd, Int.reduceSub, Int.reduceMul, Int.reduceNeg, Int.reduceEq, Int.reduceNe, Int.reduceBNe, Int.reduceBEq, Int.reduceDiv]
theorem u8_small {m : Nat} (h : m < 256) : u8 (UInt8.ofNat m) = .int .u8 (m : Int) := by rw [u8_ofNat, Nat.mod_eq_of_lt h]
theorem c_item_front (bs : List UInt8) (base n : Nat) (hb : base ≤ 192) (hn : n < 1099511627776) (hbs : bs.length ≤ 1099511627776) :
    Contract Try.prog 24 [.own false 1 (bs.map u8), .int .i64 base, .int .i64 n] (.own false 1 ((bs ++ headB n base).map u8)) := by
  have hbl := byteLen_small hn
  refine contract_of (C := cf 30 [0, 1, 2, 6, 7, 9] (fun _ => [])) (cf_ok _ _ _) (fn := Try.f24) Try.func24 (by kernel_rfl) rfl (by kernel_rfl) (by simp [cf]) (plain3 (.own _ _ _ (fun c hc => by obtain ⟨x, _, rfl⟩ := List.mem_map.1 hc; exact .int _ _)) (.int _ _) (.int _ _)) (by decide) (noCell (by kernel_rfl)) ?_
  simp only [go_sem, ↓reduceIte, Nat.reduceLT, Nat.reduceLeDiff, Nat.reduceAdd, Nat.reduceSub, Nat.reduceMul, Nat.reduceEqDiff, Nat.reduceBEq, Nat.reduceMod, Nat.reduceDiv, Int.reduceToNat, reduceCtorEq, Int.reduceLT, Int.reduceLE, Int.reduceGT, Int.reduceGE, Int.reduceAdd, Int.reduceSub, Int.reduceMul, Int.reduceNeg, Int.reduceEq, Int.reduceNe, Int.reduceBNe, Int.reduceBEq, Int.reduceDiv]
  unfold headB
  refine ex_br (fun e => ?_) (fun e => ?_)
  · have e : n ≤ 55 := by simp at e; omega
    rw [if_pos e]
    have w : IntKind.i64.wrap ((base : Int) + (n : Int)) = ((base + n : Nat) : Int) := by rw [wi64 (by omega) (by omega)]; omega
    have w2 : IntKind.u8.wrap ((base + n : Nat) : Int) = ((base + n : Nat) : Int) := wu8 (by omega) (by omega)
    simp only [go_sem, ↓reduceIte, Nat.reduceLT, Nat.reduceLeDiff, Nat.reduceAdd, Nat.reduceSub, Nat.reduceMul, Nat.reduceEqDiff, Nat.reduceBEq, Nat.reduceMod, Nat.reduceDiv, Int.reduceToNat, reduceCtorEq, Int.reduceLT, Int.reduceLE, Int.reduceGT, Int.reduceGE, Int.reduceAdd, Int.reduceSub, Int.reduceMul, Int.reduceNeg, Int.reduceEq, Int.reduceNe, Int.reduceBNe, Int.reduceBEq, Int.reduceDiv, w, w2, List.length_map]
    repeat with_reducible refine And.intro (by first | omega | (simp only [List.length_cons, List.length_append, List.length_nil, List.length_map, List.length_take, List.length_drop, List.length_set]; omega)) ?_
    refine finOne ?_ (fun _ e => by cases e)
    show resOf _ _ [.tmp 6] = _
    rw [List.map_append, List.map_cons, u8_small (by omega)]
    simp only [go_sem, ↓reduceIte, Nat.reduceLT, Nat.reduceLeDiff, Nat.reduceAdd, Nat.reduceSub, Nat.reduceMul, Nat.reduceEqDiff, Nat.reduceBEq, Nat.reduceMod, Nat.reduceDiv, Int.reduceToNat, reduceCtorEq, Int.reduceLT, Int.reduceLE, Int.reduceGT, Int.reduceGE, Int.reduceAdd, Int.reduceSub, Int.reduceMul, Int.reduceNeg, Int.reduceEq, Int.reduceNe, Int.reduceBNe, Int.reduceBEq, Int.reduceDiv]
  · have e : ¬ n ≤ 55 := by simp at e; omega
    rw [if_neg e]
    have w : IntKind.i64.wrap ((base : Int) + 55) = ((base + 55 : Nat) : Int) := by rw [wi64 (by omega) (by omega)]; omega
    have w2 : IntKind.i64.wrap (((base + 55 : Nat) : Int) + (byteLen n : Int)) = ((base + 55 + byteLen n : Nat) : Int) := by rw [wi64 (by omega) (by omega)]; omega
    have w3 : IntKind.u8.wrap ((base + 55 + byteLen n : Nat) : Int) = ((base + 55 + byteLen n : Nat) : Int) := wu8 (by omega) (by omega)
    simp only [go_sem, ↓reduceIte, Nat.reduceLT, Nat.reduceLeDiff, Nat.reduceAdd, Nat.reduceSub, Nat.reduceMul, Nat.reduceEqDiff, Nat.reduceBEq, Nat.reduceMod, Nat.reduceDiv, Int.reduceToNat, reduceCtorEq, Int.reduceLT, Int.reduceLE, Int.reduceGT, Int.reduceGE, Int.reduceAdd, Int.reduceSub, Int.reduceMul, Int.reduceNeg, Int.reduceEq, Int.reduceNe, Int.reduceBNe, Int.reduceBEq, Int.reduceDiv]
    refine ex_call (by exact c_item_size n (by omega)) ?_
    simp only [go_sem, ↓reduceIte, Nat.reduceLT, Nat.reduceLeDiff, Nat.reduceAdd, Nat.reduceSub, Nat.reduceMul, Nat.reduceEqDiff, Nat.reduceBEq, Nat.reduceMod, Nat.reduceDiv, Int.reduceToNat, reduceCtorEq, Int.reduceLT, Int.reduceLE, Int.reduceGT, Int.reduceGE, Int.reduceAdd, Int.reduceSub, Int.reduceMul, Int.reduceNeg, Int.reduceEq, Int.reduceNe, Int.reduceBNe, Int.reduceBEq, Int.reduceDiv, bytesOf_len, w, w2, w3, List.length_map]
    repeat with_reducible refine And.intro (by first | omega | (simp only [List.length_cons, List.length_append, List.length_nil, List.length_map, List.length_take, List.length_drop, List.length_set]; omega)) ?_
    refine finOne ?_ (fun _ e => by cases e)
    show resOf _ _ [.tmp 6] = _
    rw [List.map_append, List.map_cons, u8_small (by omega)]
    simp only [go_sem, ↓reduceIte, Nat.reduceLT, Nat.reduceLeDiff, Nat.reduceAdd, Nat.reduceSub, Nat.reduceMul, Nat.reduceEqDiff, Nat.reduceBEq, Nat.reduceMod, Nat.reduceDiv, Int.reduceToNat, reduceCtorEq, Int.reduceLT, Int.reduceLE, Int.reduceGT, Int.reduceGE, Int.reduceAdd, Int.reduceSub, Int.reduceMul, Int.reduceNeg, Int.reduceEq, Int.reduceNe, Int.reduceBNe, Int.reduceBEq, Int.reduceDiv, List.append_assoc]
theorem c_law4_num (n : Int) : Contract Try.prog 8 [.int .i64 n] (.int .i64 n) := by
  refine contract_of (C := cf 4 [0, 2] (fun _ => [])) (cf_ok _ _ _) (fn := Try.f8) Try.func8 (by kernel_rfl) rfl (by kernel_rfl) (by simp [cf]) (plain1 (.int _ _)) (by decide) (noCell (by kernel_rfl)) ?_
  simp only [go_sem, ↓reduceIte, Nat.reduceLT, Nat.reduceLeDiff, Nat.reduceAdd, Nat.reduceSub, Nat.reduceMul, Nat.reduceEqDiff, Nat.reduceBEq, Nat.reduceMod, Nat.reduceDiv, Int.reduceToNat, reduceCtorEq, Int.reduceLT, Int.reduceLE, Int.reduceGT, Int.reduceGE, Int.reduceAdd, Int.reduceSub, Int.reduceMul, Int.reduceNeg, Int.reduceEq, Int.reduceNe, Int.reduceBNe, Int.reduceBEq, Int.reduceDiv]
  refine finOne ?_ (fun _ e => by cases e)
  show resOf _ _ [.tmp 2] = _
  simp only [go_sem, ↓reduceIte, Nat.reduceLT, Nat.reduceLeDiff, Nat.reduceAdd, Nat.reduceSub, Nat.reduceMul, Nat.reduceEqDiff, Nat.reduceBEq, Nat.reduceMod, Nat.reduceDiv, Int.reduceToNat, reduceCtorEq, Int.reduceLT, Int.reduceLE, Int.reduceGT, Int.reduceGE, Int.reduceAdd, Int.reduceSub, Int.reduceMul, Int.reduceNeg, Int.reduceEq, Int.reduceNe, Int.reduceBNe, Int.reduceBEq, Int.reduceDiv]
end Go.Proofs.Ytmngjlgeojbghaa.VA
end
section
namespace Go.Proofs.Ytmngjlgeojbghaa.VA
set_option maxRecDepth 10000
set_option maxHeartbeats 1000000

def longK (d : Nat) (it : ItemD) : Nat :=
  if it.list = false then (if it.items ≠ [] ∨ it.text.length > 65536 then 0 else if aloneB it.text = true then 1 else it.text.length + aheadN it.text.length)
  else if it.text ≠ [] ∨ 16 ≤ d then 0
  else if okIs (d + 1) it.items = true ∧ (raws it.items).length ≤ 65536 then (raws it.items).length + aheadN (raws it.items).length else 0
theorem longK_ok {d : Nat} {it : ItemD} (h : okI d it = true) : longK d it = (rawOf it).length := by
  unfold longK
  cases hl : it.list with
  | false =>
    rw [okI_text d hl, Bool.and_eq_true, decide_eq_true_eq, List.isEmpty_iff] at h
    rw [if_pos rfl]
    obtain ⟨h1, h2⟩ := h
    have ht : ¬ it.text.length > 65536 := by
      rw [rawOf_text hl] at h2
      split at h2
      · rename_i ha; have := alone_len ha; omega
      · rw [List.length_append] at h2; omega
    rw [if_neg (by simp [h1, ht]), rawOf_text hl]
    split
    · rename_i ha; rw [alone_len ha]
    · rw [List.length_append, headB_len]; omega
  | true =>
    rw [okI_list d hl] at h
    simp only [Bool.and_eq_true, decide_eq_true_eq, List.isEmpty_iff] at h
    obtain ⟨⟨⟨h1, h2⟩, h3⟩, h4⟩ := h
    rw [if_neg (by simp), if_neg (by simp [h1]; omega), rawOf_list hl, List.length_append, headB_len]
    rw [rawOf_list hl, List.length_append] at h4
    rw [if_pos ⟨h3, by omega⟩]
    omega
theorem longK_le (d : Nat) (it : ItemD) : longK d it ≤ 65542 := by
  have h1 := @ahead_le it.text.length
  have h2 := @ahead_le (raws it.items).length
  unfold longK
  repeat' split
  all_goals omega
theorem c_item_long (it : ItemD) (h : WideI it) (d : Nat) (hd : d ≤ 16) : Contract Try.prog 22 [it.av, .int .i64 d] (.tup [.int .i64 (longK d it), .bool (okI d it)]) := by
  have ht := h.text
  have hn := h.num
  unfold reachBytes at ht hn
  cases hl : it.list with
  | false =>
    refine contract_of (C := cf 91 [1, 2, 4, 5, 6, 7, 9, 10, 11, 12, 28, 37, 52, 60, 61, 62, 63, 64, 82] (fun _ => [])) (cf_ok _ _ _) (fn := Try.f22) Try.func22 (by kernel_rfl) rfl (by kernel_rfl) (by simp [cf]) (plain2 it.plain (.int _ _)) (by decide) (noCell (by kernel_rfl)) ?_
    have bad : ∀ {σ}, look σ.tmps 4 = some (.int .i64 0) → look σ.tmps 5 = some (.bool false) → longK d it = 0 → okI d it = false → BodyPost (cf 91 [1, 2, 4, 5, 6, 7, 9, 10, 11, 12, 28, 37, 52, 60, 61, 62, 63, 64, 82] (fun _ => [])) Try.f22.results.toList (.tup [.int .i64 (longK d it), .bool (okI d it)]) .ret σ := fun h1 h2 h3 h4 => by
      refine finTup ?_
      show resOf _ _ [.tmp 4, .tmp 5] = _
      rw [h3, h4]
      simp only [resOf, resAll, resOne, resCons, resTup, resTmp, h1, h2, AV.isImm, if_true]
      rfl
    simp only [go_sem, seval, ItemD.av_eq, ItemD.cells, hl, List.length_map]
    rcases Decidable.em (it.items = []) with hi | hi
    · rw [hi]
      simp only [go_sem, seval, Int.cast_ofNat_Int]
      rcases Decidable.em (it.text.length > 65536) with hx | hx
      · have e1 : decide ((it.text.length : Int) > 65536) = true := decide_eq_true (by omega)
        rw [e1]
        simp only [go_sem, seval]
        refine bad rfl rfl (by unfold longK; rw [if_pos hl, if_pos (.inr hx)]) ?_
        rw [okI_text d hl, hi, rawOf_text hl]
        rw [if_neg (fun ha => by have := alone_len ha; omega), List.length_append]
        rw [decide_eq_false (by omega)]; rfl
      · have e1 : decide ((it.text.length : Int) > 65536) = false := decide_eq_false (by omega)
        rw [e1]
        simp only [go_sem, seval, hl]
        refine ex_call (by exact c_item_alone it.text (by omega)) ?_
        simp only [go_sem, seval, hl]
        cases ha : aloneB it.text with
        | true =>
          have hk : longK d it = 1 := by unfold longK; rw [if_pos hl, if_neg (by simp [hi]; omega), if_pos ha]
          have ho : okI d it = true := by rw [okI_text d hl, hi, rawOf_text hl, if_pos ha, alone_len ha]; rfl
          rw [hk, ho]
          simp only [go_sem, seval]
          refine finTup ?_
          show resOf _ _ [.tmp 4, .tmp 5] = _
          simp only [go_sem, seval]
          try rfl
        | false =>
          have hahead := ahead_le (n := it.text.length) (by omega)
          have hk : longK d it = it.text.length + aheadN it.text.length := by unfold longK; rw [if_pos hl, if_neg (by simp [hi]; omega), if_neg (by rw [ha]; simp)]
          have ho : okI d it = decide (((it.text.length + aheadN it.text.length : Nat) : Int) ≤ 65536) := by
            rw [okI_text d hl, hi, rawOf_text hl, if_neg (by rw [ha]; simp), List.length_append, headB_len]
            rw [show ([] : List ItemD).isEmpty = true from rfl, Bool.true_and]
            exact decide_congr (by omega)
          have w : IntKind.i64.wrap ((it.text.length : Int) + (aheadN it.text.length : Int)) = ((it.text.length + aheadN it.text.length : Nat) : Int) := by rw [wi64 (by omega) (by omega)]; omega
          rw [hk, ho]
          simp only [go_sem, seval, hl]
          refine ex_draw [] [] (.quiet 0 (.quiet 1 (.quiet 2 (.quiet 3 (.quiet 4 (.quiet 5 (.one 6 (.quiet 7 (.quiet 8 (.fin)))))))))) (by kernel_rfl) ?_
          simp only [go_sem, seval]
          refine ex_call (by exact c_item_ahead it.text.length (by omega)) ?_
          simp only [go_sem, seval, w]
          refine finTup ?_
          show resOf _ _ [.tmp 4, .tmp 5] = _
          simp only [go_sem, seval]
    · have e1 : decide ((it.items.length : Int) > 0) = true := decide_eq_true (by
        have : it.items.length ≠ 0 := fun e => hi (List.eq_nil_of_length_eq_zero e)
        omega)
      rw [e1]
      simp only [go_sem, seval]
      refine bad rfl rfl (by unfold longK; rw [if_pos hl, if_pos (.inl hi)]) ?_
      rw [okI_text d hl]
      cases hq : it.items with
      | nil => exact absurd hq hi
      | cons a l => rfl
  | true =>
    have ih : ∀ x, x ∈ it.items → d + 1 ≤ 16 → Contract Try.prog 22 [x.av, .int .i64 (d + 1 : Nat)] (.tup [.int .i64 (longK (d + 1) x), .bool (okI (d + 1) x)]) := fun x hx hd1 => c_item_long x (h.all x hx) (d + 1) hd1
    refine contract_of (C := cf 91 [1, 2, 4, 5, 6, 7, 9, 10, 11, 12, 28, 37, 52, 60, 61, 62, 63, 64, 82] (fun _ => [])) (cf_ok _ _ _) (fn := Try.f22) Try.func22 (by kernel_rfl) rfl (by kernel_rfl) (by simp [cf]) (plain2 it.plain (.int _ _)) (by decide) (noCell (by kernel_rfl)) ?_
    have hkl : longK d it = if it.text ≠ [] ∨ 16 ≤ d then 0 else if okIs (d + 1) it.items = true ∧ (raws it.items).length ≤ 65536 then (raws it.items).length + aheadN (raws it.items).length else 0 := by
      unfold longK; rw [if_neg (by rw [hl]; simp)]
    have bad : ∀ {σ}, look σ.tmps 4 = some (.int .i64 0) → look σ.tmps 5 = some (.bool false) → longK d it = 0 → okI d it = false → BodyPost (cf 91 [1, 2, 4, 5, 6, 7, 9, 10, 11, 12, 28, 37, 52, 60, 61, 62, 63, 64, 82] (fun _ => [])) Try.f22.results.toList (.tup [.int .i64 (longK d it), .bool (okI d it)]) .ret σ := fun h1 h2 h3 h4 => by
      refine finTup ?_
      show resOf _ _ [.tmp 4, .tmp 5] = _
      rw [h3, h4]
      simp only [resOf, resAll, resOne, resCons, resTup, resTmp, h1, h2, AV.isImm, if_true]
      rfl
    simp only [go_sem, seval, ItemD.av_eq, ItemD.cells, hl, List.length_map]
    rcases Decidable.em (it.text = []) with htx | htx
    · rw [htx]
      rcases Decidable.em (16 ≤ d) with hd1 | hd1
      · have e1 : decide ((d : Int) ≥ 16) = true := decide_eq_true (by omega)
        simp only [go_sem, seval, e1, hl]
        refine bad rfl rfl (by rw [hkl, if_pos (.inr hd1)]) ?_
        rw [okI_list d hl, decide_eq_false (show ¬ d < 16 by omega)]; simp
      · have e1 : decide ((d : Int) ≥ 16) = false := decide_eq_false (by omega)
        have hk : longK d it = if okIs (d + 1) it.items = true ∧ (raws it.items).length ≤ 65536 then (raws it.items).length + aheadN (raws it.items).length else 0 := by
          rw [hkl, if_neg (by simp [htx]; omega)]
        have ho : okI d it = (okIs (d + 1) it.items && decide ((rawOf it).length ≤ 65536)) := by
          rw [okI_list d hl, htx, decide_eq_true (show d < 16 by omega)]; simp
        have hrl : (rawOf it).length = (raws it.items).length + aheadN (raws it.items).length := by rw [rawOf_list hl, List.length_append, headB_len]; omega
        have w1 : IntKind.i64.wrap ((d : Int) + 1) = ((d + 1 : Nat) : Int) := wi64_nat d (by omega)
        simp only [go_sem, seval, e1, hl, List.length_map]
        refine ex_iter [1, 2, 7, 60, 61, 62, 63] (fun i : Nat => ⟨[(1, .int .i64 d), (2, .var 2 0), (7, .int .i64 (raws (it.items.take i)).length), (60, .var 2 2), (61, .sl false 3 (it.items.map ItemD.av)), (62, .int .i64 it.items.length), (63, .int .i64 i)], [(2, [.bool true, .str [], .sl false 3 (it.items.map ItemD.av)])], []⟩)
          (fun i => i ≤ it.items.length ∧ okIs (d + 1) (it.items.take i) = true ∧ (raws (it.items.take i)).length ≤ 65536) (fun i => it.items.length - i) 0 ?_ ?_ ?_
        · simp only [ASt.keep, consIf, keepL, keepV, AV.isBot, List.contains_cons, List.contains_nil, Nat.reduceBEq, Bool.or_false, Bool.false_or, Bool.or_true, Bool.true_or, beq_self_eq_true, Bool.false_eq_true, ↓reduceIte, if_false, if_true]
          rfl
        · exact ⟨Nat.zero_le _, by rw [List.take_zero, okIs_nil], by rw [List.take_zero, raws_nil]; simp⟩
        · rintro r i ⟨hi, hok, hlen⟩ next
          simp only [go_sem, seval]
          refine ex_br (fun hc => ?_) (fun hc => ?_)
          · have hlt : i < it.items.length := by simpa using hc
            obtain ⟨x, ex⟩ : ∃ x, it.items[i]? = some x := ⟨_, List.getElem?_eq_getElem hlt⟩
            have hm := List.mem_of_getElem? ex
            have hx := ih x hm (by omega)
            rw [ItemD.av_eq] at hx
            have hkx := longK_le (d + 1) x
            have hsnoc : it.items.take (i + 1) = it.items.take i ++ [x] := by rw [List.take_add_one, ex]; rfl
            have hraw : raws (it.items.take (i + 1)) = raws (it.items.take i) ++ rawOf x := by rw [hsnoc, raws_append, raws_cons, raws_nil, List.append_nil]
            have hok2 : okI (d + 1) x = true → okIs (d + 1) (it.items.take (i + 1)) = true := fun hox => by
              rw [hsnoc]
              refine okIs_all fun y hy => ?_
              rcases List.mem_append.1 hy with hy | hy
              · exact okIs_mem hok y hy
              · rw [List.mem_singleton.1 hy]; exact hox
            have w2 : IntKind.i64.wrap (((raws (it.items.take i)).length : Int) + (longK (d + 1) x : Int)) = (((raws (it.items.take i)).length + longK (d + 1) x : Nat) : Int) := by rw [wi64 (by omega) (by omega)]; omega
            cases hox : okI (d + 1) x with
            | true =>
              have hkk := longK_ok hox
              rw [hox, hkk] at hx
              rw [hkk] at w2
              rcases Decidable.em ((raws (it.items.take i)).length + (rawOf x).length > 65536) with hg | hg
              · have e2 : decide ((((raws (it.items.take i)).length + (rawOf x).length : Nat) : Int) > 65536) = true := decide_eq_true (by omega)
                simp only [go_sem, seval, List.length_map, List.getElem?_map, ex, Int.toNat_natCast, ItemD.av_eq, ItemD.cells]
                repeat with_reducible refine And.intro (by first | omega | (simp only [List.length_cons, List.length_append, List.length_nil, List.length_map, List.length_take, List.length_drop, List.length_set]; omega)) ?_
                try simp only [go_sem, seval, ItemD.cells, w1]
                refine ex_call (by exact hx) ?_
                simp only [go_sem, seval, w2, e2]
                have hbig : ¬ (raws it.items).length ≤ 65536 := by
                  have e3 : raws it.items = raws (it.items.take (i + 1)) ++ raws (it.items.drop (i + 1)) := by rw [← raws_append, List.take_append_drop]
                  rw [e3, List.length_append, hraw, List.length_append]
                  omega
                refine bad rfl rfl (by rw [hk, if_neg (fun h => hbig h.2)]) ?_
                rw [ho, decide_eq_false (by omega)]; simp
              · have e2 : decide ((((raws (it.items.take i)).length + (rawOf x).length : Nat) : Int) > 65536) = false := decide_eq_false (by omega)
                simp only [go_sem, seval, List.length_map, List.getElem?_map, ex, Int.toNat_natCast, ItemD.av_eq, ItemD.cells]
                repeat with_reducible refine And.intro (by first | omega | (simp only [List.length_cons, List.length_append, List.length_nil, List.length_map, List.length_take, List.length_drop, List.length_set]; omega)) ?_
                try simp only [go_sem, seval, ItemD.cells, w1]
                refine ex_call (by exact hx) ?_
                simp only [go_sem, seval, w2, e2]
                refine next (i + 1) _ ⟨by omega, hok2 hox, by rw [hraw, List.length_append]; omega⟩ (by omega) ?_
                rw [hraw, List.length_append, ← wi64_nat i (by omega)]
                simp only [ASt.keep, consIf, keepL, keepV, AV.isBot, List.contains_cons, List.contains_nil, Nat.reduceBEq, Bool.or_false, Bool.false_or, Bool.or_true, Bool.true_or, beq_self_eq_true, Bool.false_eq_true, ↓reduceIte, if_false, if_true]
            | false =>
              rw [hox] at hx
              simp only [go_sem, seval, List.length_map, List.getElem?_map, ex, Int.toNat_natCast, ItemD.av_eq, ItemD.cells]
              repeat with_reducible refine And.intro (by first | omega | (simp only [List.length_cons, List.length_append, List.length_nil, List.length_map, List.length_take, List.length_drop, List.length_set]; omega)) ?_
              try simp only [go_sem, seval, ItemD.cells, w1]
              refine ex_call (by exact hx) ?_
              simp only [go_sem, seval, w2]
              have hbad : okIs (d + 1) it.items = false := by
                cases hq : okIs (d + 1) it.items with
                | false => rfl
                | true => rw [okIs_mem hq x hm] at hox; cases hox
              refine bad rfl rfl (by rw [hk, if_neg (fun h => by rw [hbad] at h; cases h.1)]) ?_
              rw [ho, hbad]; rfl
          · have hge : i = it.items.length := by simp at hc; omega
            subst hge
            rw [List.take_length] at hok hlen ⊢
            have hah := ahead_le (n := (raws it.items).length) (by omega)
            have w3 : IntKind.i64.wrap (((raws it.items).length : Int) + (aheadN (raws it.items).length : Int)) = (((raws it.items).length + aheadN (raws it.items).length : Nat) : Int) := by rw [wi64 (by omega) (by omega)]; omega
            rw [hk, if_pos ⟨hok, hlen⟩, ho, hok, Bool.true_and, hrl]
            simp only [go_sem, seval]
            refine ex_call (by exact c_item_ahead (raws it.items).length (by omega)) ?_
            have e3 : decide ((((raws it.items).length + aheadN (raws it.items).length : Nat) : Int) ≤ 65536) = decide ((raws it.items).length + aheadN (raws it.items).length ≤ 65536) := decide_congr (by omega)
            simp only [go_sem, seval, w3, e3]
            refine finTup ?_
            show resOf _ _ [.tmp 4, .tmp 5] = _
            simp only [go_sem, seval]
    · have e1 : (it.text == ([] : List UInt8)) = false := by simpa using htx
      rw [e1]
      simp only [go_sem, seval, hl]
      refine bad rfl rfl (by rw [hkl, if_pos (.inl htx)]) ?_
      rw [okI_list d hl]
      cases hq : it.text with
      | nil => exact absurd hq htx
      | cons a l => rfl
termination_by SizeOf.sizeOf it
decreasing_by exact item_lt hx
end Go.Proofs.Ytmngjlgeojbghaa.VA
end
section
namespace Go.Proofs.Ytmngjlgeojbghaa.VA
section
variable {F : Fx} {I : Imm} {own : Nat → Option Loc} {σ : ASt} {a : Act} {w : World} {C : Cfg} {K : ASt → Prop} {Q : Exit → Act → World → Prop}

theorem spo_of (hC : F.C = C) (hns : ∀ f, C.spc f = false) : F.spo := fun ⟨f, e⟩ => by rw [hC, hns f] at e; cases e
theorem reg_in (hok : CfgOk C) {id : Nat} {ops : Array Oper} (hnd : noDeferB ops = true) (hC : F.C = C) (hop : F.open) (h : RI F I own σ a w) (hw : aops C ops.toList K ops.toList σ) (hL : ¬ LetsOut Q) (hQ : ∀ a w, Post F K a w → Q .normal a w) (hns : ∀ f, C.spc f = false := by exact fun _ => rfl) :
    (Code.region id ops false).wpIn (fen none) 0 C.P Q a w := region_in (noDefer_of hnd) hL (aops_ok hC hok hop (spo_of hC hns) hQ ops.toList σ I own a w h hw)
/-- One operation of a region. -/
theorem op_in (hok : CfgOk C) {ops : List Oper} {rest : List Oper} {o : Oper} (hd : ∀ c, o.op ≠ .defer c) (hC : F.C = C) (hop : F.open) (h : RI F I own σ a w) (hw : aops C ops K [o] σ)
    (hn : ∀ a w, Post F K a w → wpListIn (fen none) 0 C.P ops.toArray Q rest a w) (hns : ∀ f, C.spc f = false := by exact fun _ => rfl) : wpListIn (fen none) 0 C.P ops.toArray Q (o :: rest) a w := by
  have hs := step_ok (Q := Q) (ops := ops.toArray) (K := K) hC hok (fun τ _ => OkLk.of_open hop (spo_of hC hns) τ o) h hw
  unfold wpListIn
  split
  · rename_i hwd
    exact Oper.wpIn_mono hn (oper_in hd (hs.1 hwd))
  · rename_i hwd
    exact ⟨fun _ _ => trivial, hn _ _ (hs.2 (by simpa using hwd))⟩
/-- A call of yield. -/
theorem yield_in {P : Program} {ops : Array Oper} {rest : List Oper} {o : Oper} (hg : o.guard = none) {x y : Operand} {T : TypeId} (hop : o.op = .call { callee := .value x, args := #[y], argTypes := #[T] })
    {l : Nat} (hx : a.eval x = .func (.yield l) #[] #[]) {R : Bool → World → Prop} (hr : RoundW P l (a.eval y) w R) (hn : ∀ b w', R b w' → wpListIn (fen none) 0 P ops Q rest (a.put o.dst (.bool b)) w') :
    wpListIn (fen none) 0 P ops Q (o :: rest) a w := by
  obtain ⟨f, tmps, assign, body, h1, h2⟩ := hr
  have hrun : (o.semAt none a.eval).run P w = .ok (.round l f tmps assign body) w := by
    rw [Oper.semAt_none]
    unfold execOp
    rw [hop]
    generalize a.eval = ρ at hx h1 ⊢
    simp [resolve, invoke, hx, go_sem, h1]
  unfold wpListIn
  rw [if_pos (by simp [Region.wanted, hg])]
  refine ⟨fun _ _ => trivial, ?_⟩
  show o.uponIn (fen none) 0 P a _ Q ((o.semAt none a.eval).run P w)
  rw [hrun]
  refine ⟨fun e => (Bool.false_ne_true e).elim, RoundIn.mono h2 fun e w' he => ?_⟩
  obtain ⟨b, rfl, hb⟩ := he
  exact hn b w' hb

/-- The base of a walk from here on: nothing that lies is turned. -/
def bare (C : Cfg) (w : World) (I : Imm) : Fx := ⟨C, w, I, fun _ => False, fun _ => false, fun _ => False, [], #[], fun _ => True⟩
theorem bare_fix (hfix : C.fix = []) {t : Nat} (e : (bare C w I).C.fix.contains t = true) : False := by
  have e : C.fix.contains t = true := e
  rw [hfix] at e
  cases e
theorem bare_open : (bare C w I).open := ⟨fun _ => rfl, fun _ h => h⟩
theorem RI.nil (hI : Imm.ok I w) (hfix : C.fix = []) (hs : a.tmps.size = C.n) (hd : a.defers = []) : RI (bare C w I) I (fun _ => none) ⟨[], [], []⟩ a w where
  st := .nil
  imm := hI
  base := Imm.leRefl I
  inew := fun _ _ _ h => .inl h
  fr := fr_refl _ _
  mko := fun _ _ => trivial
  mine := fun _ _ h => by cases h
  defs := ⟨hd, fun t e => (bare_fix hfix e).elim⟩
  size := hs
  slots := fun l x hx => by cases l <;> cases hx
  boxes := fun k cs hk => by cases hk
  quiet := fun l x hx => by cases l <;> cases hx
  lk := ⟨fun b hb => hb.elim, fun k e => by cases e⟩
/-- Temporaries that never change any more, in a later world. -/
theorem RI.fresh {F0 : Fx} {I0 : Imm} {w0 : World} (h : RI F0 I0 own σ a w0) (hn : F0.C.n = C.n) (hfix : C.fix = []) (hds : F0.ds = []) {a2 : Act} (hs : a2.tmps.size = C.n) (hd : a2.defers = []) (hle : Imm.le I0 I) (hI : Imm.ok I w) (tm : List (Nat × AV))
    (ht : ∀ t x, look tm t = some x → look σ.tmps t = some x ∧ x.isImm = true ∧ a2.tmps[t]? = a.tmps[t]?) : RI (bare C w I) I (fun _ => none) ⟨tm, [], []⟩ a2 w := by
  refine (RI.nil (a := a2) hI hfix hs hd).make bare_open tm (fun _ _ e => by cases e) (fun _ _ e => by cases e) hs ⟨hd, fun t e => (bare_fix hfix e).elim⟩ (fun k cs e => by cases e) fun t x hx => ?_
  obtain ⟨h1, h2, h3⟩ := ht t x hx
  obtain ⟨v, e1, e2⟩ := h.slots (.tmp t) x h1
  exact ⟨v, h3.trans e1, .inr (.inl ⟨h2, ((srep_imm h2).1 e2).mono (fun _ _ => trivial) hle⟩)⟩
theorem RI.rstep {I2 : Imm} {w2 : World} (h : RI (bare C w I) I2 own σ a w2) : RStep w I [] w2 I2 [] :=
  ⟨⟨h.fr.os, h.fr.tape, h.fr.output, h.fr.size, fun k hk _ => h.fr.block k hk id, h.fr.new⟩, h.base, h.imm, fun b o u e => by
    rcases h.inew b o u e with q | q | q
    · exact .inl q
    · exact .inr (.inl q)
    · exact q.elim, fun g hg => by cases hg⟩
end
end Go.Proofs.Ytmngjlgeojbghaa.VA
end
section
namespace Go.Proofs.Ytmngjlgeojbghaa.VA
set_option maxRecDepth 10000
set_option maxHeartbeats 400000

theorem c_Each (it : ItemD) : Contract Try.prog 23 [it.av] (.ext (cloP 28 it.cells)) := by
  refine contract_of (C := cf 4 [1, 2] (fun _ => [])) (cf_ok _ _ _) (fn := Try.f23) Try.func23 (by kernel_rfl) rfl (by kernel_rfl) (by simp [cf]) (plain1 it.plain) (by decide) (noCell (by kernel_rfl)) ?_
  simp only [go_sem, seval, ItemD.av_eq, ItemD.cells]
  refine finOne ?_ (fun _ e => by cases e)
  show resOf _ _ [.tmp 2] = _
  simp only [go_sem, seval]
/-- What Each hands over. -/
def eachOf (it : ItemD) : List AV := if it.list = true then it.items.map ItemD.av else []
/-- The value of yield. -/
def yP (l : Nat) : Imm → Value → Prop := fun _ v => v = .func (.yield l) #[] #[]
def eachTm (l : Nat) (it : ItemD) (i : Nat) : List (Nat × AV) := [(0, .ext (yP l)), (9, .sl false 3 (it.items.map ItemD.av)), (10, .int .i64 it.items.length), (11, .int .i64 i)]
theorem put_same {a : Act} {t : Nat} {v : Value} (h : a.tmps[t]? = some v) : a.put (some t) v = a := by
  cases a with
  | mk tmps defers =>
    show Act.mk (tmps.setIfInBounds t v) defers = Act.mk tmps defers
    congr 1
    refine Array.ext_getElem? fun i => ?_
    by_cases e : t = i
    · subst e
      have hlt := (Array.getElem?_eq_some_iff.1 h).1
      rw [Array.getElem?_setIfInBounds_self_of_lt hlt]
      exact h.symm
    · rw [Array.getElem?_setIfInBounds_ne e]
theorem eval_tmp {a : Act} {t : Nat} {v : Value} (h : a.tmps[t]? = some v) : a.eval (.tmp t) = v := by
  simp [Act.eval, h]
section
variable {F : Fx} {I : Imm} {own : Nat → Option Loc} {σ : ASt} {a : Act} {w : World}
theorem RI.bool (h : RI F I own σ a w) {t : Nat} {b : Bool} (hl : look σ.tmps t = some (.bool b)) : a.eval (.tmp t) = .bool b := by
  obtain ⟨v, h1, h2⟩ := h.slots (.tmp t) _ hl
  have h2 := (srep_imm rfl).1 h2
  cases h2
  exact eval_tmp h1
theorem RI.val (h : RI F I own σ a w) {t : Nat} {x : AV} (hi : x.isImm = true) (hl : look σ.tmps t = some x) : AR F.mo I x (a.eval (.tmp t)) := by
  obtain ⟨v, h1, h2⟩ := h.slots (.tmp t) _ hl
  rw [eval_tmp h1]
  exact (srep_imm hi).1 h2
end
theorem plainVs_one {k : Nat} {cs : List AV} (h : ∀ c, c ∈ cs → c.plainV) : plainVs [(k, cs)] := fun j ds hj c hc => by
  simp only [look] at hj
  split at hj
  · cases hj; exact h c hc
  · cases hj
theorem all_nil : ∀ c, c ∈ ([] : List AV) → c.plainV := fun c hc => by cases hc
theorem all_cons {x : AV} {xs : List AV} (h : x.plainV) (hx : ∀ c, c ∈ xs → c.plainV) : ∀ c, c ∈ x :: xs → c.plainV := fun c hc => by
  rcases List.mem_cons.1 hc with rfl | hc
  · exact h
  · exact hx c hc
theorem plainV_of {x : AV} (h : Plain x) : x.plainV := by
  cases x <;> first | exact h | trivial
theorem look_cons {α : Type} {t k : Nat} {x y : α} {r : List (Nat × α)} (h : look ((k, y) :: r) t = some x) : (t = k ∧ x = y) ∨ look r t = some x := by
  unfold look at h
  split at h
  · rename_i e
    cases h
    exact .inl ⟨(by simpa using e), rfl⟩
  · exact .inr h
noncomputable def CE : Cfg := cf 21 [0, 4, 7, 9, 10, 11, 12, 15, 16, 17, 18, 19] (fun _ => [])
theorem iter_each (it : ItemD) (h : it.ok) : Iter Try.prog (cloP 28 it.cells) (eachOf it) := by
  rintro J v ⟨b, rfl, har⟩
  refine ⟨_, _, rfl, fun args w => by simp [go_sem], ?_⟩
  intro l Inv Stop gs I w hI hJ hgs h0 hstep hsstop hround
  have hlen := h.len
  unfold reachBytes at hlen
  have hok : CfgOk CE := cf_ok _ _ _
  have hfix : CE.fix = [] := rfl
  have hn : CE.n = 21 := rfl
  have hP : CE.P = Try.prog := rfl
  refine callsIn_wide.1 (callsIn_of_wp (F := Fence.wide) (n := 0) Try.func28 rfl trivial ?_)
  obtain ⟨R, hR⟩ : ∃ R : Ending → World → Prop, R = fun e w' => ∃ v gs I, e = .returned v ∧ (Inv (eachOf it).length gs I w' ∨ Stop gs I w') := ⟨_, rfl⟩
  rw [← hR]
  obtain ⟨Q, hQ⟩ : ∃ Q, Q = bodyPost Try.prog Try.f28 R := ⟨_, rfl⟩
  rw [← hQ]
  have hout : ∀ a w, ¬ Q .outgrown a w := fun a w e => by
    rw [hQ] at e
    have e : R .outgrown w := e
    rw [hR] at e
    obtain ⟨_, _, _, e, _⟩ := e
    cases e
  have hL0 : ¬ LetsOut Q := fun ⟨a, w, e⟩ => hout a w e
  have fin : ∀ (a : Act) (W : World) gs I', a.defers = [] → (Inv (eachOf it).length gs I' W ∨ Stop gs I' W) → (a.defers = [] ∧ ∃ v, (results Try.f28 a.tmps).run Try.prog W = .ok v W ∧ R (.returned v) W) := fun a W gs I' hd hi =>
    ⟨hd, .tuple #[], run_results (us := []) (by simp [go_sem]), by rw [hR]; exact ⟨_, gs, I', rfl, hi⟩⟩
  have finR : ∀ (a : Act) (W : World) gs I', a.defers = [] → (Inv (eachOf it).length gs I' W ∨ Stop gs I' W) → Q .ret a W := fun a W gs I' hd hi => by rw [hQ]; exact fin a W gs I' hd hi
  have finN : ∀ (a : Act) (W : World) gs I', a.defers = [] → (Inv (eachOf it).length gs I' W ∨ Stop gs I' W) → Q .normal a W := fun a W gs I' hd hi => by rw [hQ]; exact fin a W gs I' hd hi
  clear hQ
  obtain ⟨slv, hslv⟩ : ∃ slv : AV, slv = .sl false 3 [.agg it.cells] := ⟨_, rfl⟩
  have har2 : AR (fun _ => True) I (.sl false 3 [.agg it.cells]) (.slice (some ⟨b, 0, none⟩) 1 1) := (har : AR (fun _ => True) J (.sl false 3 [.agg it.cells]) _).mono (fun _ h => h) hJ
  -- the begin
  obtain ⟨yv, hyv⟩ : ∃ yv : Value, yv = .func (.yield l) #[] #[] := ⟨_, rfl⟩
  obtain ⟨pv, hpv⟩ : ∃ pv : Value, pv = .pointer (some ⟨b, 0, none⟩) := ⟨_, rfl⟩
  rw [← hyv, ← hpv]
  rw [show Try.f28.ntmps - (#[yv] ++ #[pv] : Array Value).size = 19 from by simp]
  obtain ⟨A, hA⟩ : ∃ A : Array Value, A = #[yv] ++ #[pv] ++ Array.replicate 19 undef := ⟨_, rfl⟩
  have hA0 : A[0]? = some yv := by rw [hA]; simp
  have hA1 : A[1]? = some pv := by rw [hA]; simp
  have hAs : A.size = CE.n := by rw [hA, hn]; simp
  rw [← hA]
  have hst : RI (bare CE w I) I (fun _ => none) ⟨[(0, .ext (yP l)), (1, .elt (.sl false 3 [.agg it.cells]) 0 0)], [], []⟩ { tmps := A, defers := [] } w := by
    have e0 := RI.nil (C := CE) (a := { tmps := A, defers := [] }) hI hfix hAs rfl
    have hm : ∀ t, t < 21 → (bare CE w I).C.may t = true := fun t ht => by
      show (decide (t < CE.n) && !CE.fix.contains t) = true
      rw [hfix, hn]; simp [ht]
    have e1 := e0.put (t := 0) (x := .ext (yP l)) (v := yv) (hm 0 (by decide)) rfl (fun _ _ _ e => by cases e) (fun _ e => by cases e) ((srep_imm rfl).2 (.ext _ I _ (fun _ _ _ e => e) (by rw [hyv]; rfl) hyv))
    rw [put_same hA0] at e1
    have e2 := e1.put (t := 1) (x := .elt (.sl false 3 [.agg it.cells]) 0 0) (v := pv) (hm 1 (by decide)) rfl (fun _ _ _ e => by cases e) (fun _ e => by cases e) ⟨b, 0, 1, 1, har2, hpv⟩
    rw [put_same hA1] at e2
    exact e2
  refine wpIn_seq (wpIn_seq ?_)
  refine reg_in (C := CE) (K := fun τ => τ = ⟨[(0, .ext (yP l)), (1, .elt (.sl false 3 [.agg it.cells]) 0 0), (5, .elt (.sl false 3 [.agg it.cells]) 0 0), (6, .bool it.list), (7, .bool (!it.list))], [], []⟩) hok (by kernel_rfl) rfl bare_open hst ?_ (fun ⟨a, w, e⟩ => hout a w e) ?_
  · show exec CE (fun _ τ => τ = _) [.ops _ _] .normal _
    simp only [go_sem, seval, CE, ItemD.cells]
  rintro a1 w1 ⟨I1, own1, τ, q1, rfl⟩
  have hd1 : a1.defers = [] := q1.defs.1
  show Code.wpIn _ _ _ _ _ a1 w1
  cases hl : it.list with
  | false =>
    refine wpIn_cond_true (by rw [q1.bool (t := 7) rfl, hl]; rfl) (wpIn_ret ?_)
    refine finR a1 w1 gs I1 hd1 (.inl ?_)
    rw [show (eachOf it).length = 0 by unfold eachOf; rw [hl]; rfl]
    exact hstep 0 gs I w I1 w1 h0 q1.rstep
  | true =>
    have heach : eachOf it = it.items.map ItemD.av := by unfold eachOf; rw [hl]; rfl
    have hel : (eachOf it).length = it.items.length := by rw [heach, List.length_map]
    refine wpIn_cond_false (by rw [q1.bool (t := 7) rfl, hl]; rfl) (wpIn_skip ?_)
    show Code.wpIn _ _ _ _ _ a1 w1
    refine wpIn_seq ?_
    refine reg_in (C := CE) (K := fun τ => look τ.tmps 0 = some (.ext (yP l)) ∧ look τ.tmps 9 = some (.sl false 3 (it.items.map ItemD.av)) ∧ look τ.tmps 10 = some (.int .i64 it.items.length) ∧ look τ.tmps 11 = some (.int .i64 (0 : Nat))) hok (by kernel_rfl) rfl bare_open q1 ?_ (fun ⟨a, w, e⟩ => hout a w e) ?_
    · show exec CE (fun _ τ => look τ.tmps 0 = some (.ext (yP l)) ∧ look τ.tmps 9 = some (.sl false 3 (it.items.map ItemD.av)) ∧ look τ.tmps 10 = some (.int .i64 it.items.length) ∧ look τ.tmps 11 = some (.int .i64 (0 : Nat))) [.ops _ _] .normal _
      simp only [go_sem, seval, CE, ItemD.cells, List.length_map, Int.cast_ofNat_Int]
    rintro a2 w2 ⟨I2, own2, τ, q2, k0, k9, k10, k11⟩
    have heads : ∀ (i : Nat) (a : Act) (w' w0 : World) (I' I0 : Imm) (own : Nat → Option Loc) (τ : ASt), RI (bare CE w0 I0) I' own τ a w' → look τ.tmps 0 = some (.ext (yP l)) → look τ.tmps 9 = some (.sl false 3 (it.items.map ItemD.av)) → look τ.tmps 10 = some (.int .i64 it.items.length) →
        look τ.tmps 11 = some (.int .i64 (i : Nat)) → RI (bare CE w' I') I' (fun _ => none) ⟨eachTm l it i, [], []⟩ a w' := by
      intro i a w' w0 I' I0 own τ q k0 k9 k10 k11
      refine q.fresh (C := CE) rfl hfix rfl q.size q.defs.1 (Imm.leRefl _) q.imm _ fun t x hx => ?_
      unfold eachTm at hx
      rcases look_cons hx with ⟨rfl, rfl⟩ | hx
      · exact ⟨k0, rfl, rfl⟩
      rcases look_cons hx with ⟨rfl, rfl⟩ | hx
      · exact ⟨k9, rfl, rfl⟩
      rcases look_cons hx with ⟨rfl, rfl⟩ | hx
      · exact ⟨k10, rfl, rfl⟩
      rcases look_cons hx with ⟨rfl, rfl⟩ | hx
      · exact ⟨k11, rfl, rfl⟩
      cases hx
    have hst2 := heads 0 a2 w2 w I2 I own2 τ q2 k0 k9 k10 k11
    have hI2 : Inv 0 gs I2 w2 := hstep 0 gs I w I2 w2 h0 q2.rstep
    have hg2 : ∀ g, g ∈ gs → g < w2.heap.size := fun g hg => Nat.lt_of_lt_of_le (hgs g hg) q2.fr.size
    clear q2 k0 k9 k10 k11 hst q1
    show Code.wpIn _ _ _ _ _ a2 w2
    refine wpIn_block (wpIn_loop_rounds (it.items.length + 1) ?_)
    refine (fun key => key _ 0 gs I2 a2 w2 (by omega) (Nat.zero_le _) hst2 hI2 hg2 : (∀ m i gs I' a w', it.items.length + 1 - i ≤ m → i ≤ it.items.length → RI (bare CE w' I') I' (fun _ => none) ⟨eachTm l it i, [], []⟩ a w' → Inv i gs I' w' → (∀ g, g ∈ gs → g < w'.heap.size) → Code.roundsIn _ _ _ _ _ m a w') → _) ?_
    intro m
    induction m with
    | zero => intro i gs I' a w' h1 h2; omega
    | succ m ih =>
      intro i gs I' a w' h1 h2 q hi hg
      rw [roundsIn_succ]
      refine wpIn_seq (reg_in (C := CE) (K := fun τ => τ = ⟨[(0, .ext (yP l)), (9, .sl false 3 (it.items.map ItemD.av)), (10, .int .i64 it.items.length), (11, .int .i64 i), (12, .bool (decide ((i : Int) < it.items.length)))], [], []⟩) hok (by kernel_rfl) rfl bare_open q ?_ (fun ⟨a, w, e⟩ => hout a w e) ?_)
      · show exec CE (fun _ τ => τ = _) [.ops _ _] .normal _
        unfold eachTm
        simp only [go_sem, seval, CE]
      rintro a3 w3 ⟨I3, own3, τ, q3, rfl⟩
      have hd3 : a3.defers = [] := q3.defs.1
      have hi3 : Inv i gs I3 w3 := hstep i gs I' w' I3 w3 hi q3.rstep
      have hg3 : ∀ g, g ∈ gs → g < w3.heap.size := fun g h => Nat.lt_of_lt_of_le (hg g h) q3.fr.size
      refine wpIn_seq ?_
      rcases Decidable.em (i < it.items.length) with hlt | hge
      case inr =>
        have e : i = it.items.length := by omega
        subst e
        refine wpIn_cond_false (by rw [q3.bool (t := 12) rfl]; simp) (wpIn_exit ?_)
        exact finN a3 w3 gs I3 hd3 (.inl (by rw [hel]; exact hi3))
      obtain ⟨x, ex⟩ : ∃ x, it.items[i]? = some x := ⟨_, List.getElem?_eq_getElem hlt⟩
      have hxo := h.all x (List.mem_of_getElem? ex)
      refine wpIn_cond_true (by rw [q3.bool (t := 12) rfl]; simp [hlt]) (wpIn_skip ?_)
      refine wpIn_seq (wpIn_block ?_)
      refine wpIn_seq (reg_in (C := CE) (K := fun τ => τ = ⟨[(0, .ext (yP l)), (4, .var 4 0), (9, .sl false 3 (it.items.map ItemD.av)), (10, .int .i64 it.items.length), (11, .int .i64 i), (12, .bool (decide ((i : Int) < it.items.length))), (13, .elt (.sl false 3 (it.items.map ItemD.av)) i 0), (14, .agg x.cells)], [(4, x.cells)], []⟩) hok (by kernel_rfl) rfl bare_open q3 ?_ (fun ⟨a, w, e⟩ => hout a w e) ?_)
      · show exec CE (fun _ τ => τ = _) [.ops _ _] .normal _
        simp only [go_sem, seval, CE, List.length_map, List.getElem?_map, ex, Int.toNat_natCast, ItemD.av_eq]
        repeat with_reducible refine And.intro (by first | omega | (simp only [List.length_cons, List.length_append, List.length_nil, List.length_map, List.length_take, List.length_drop, List.length_set]; omega)) ?_
        simp only [go_sem, seval, CE, cellsI_len]
      rintro a4 w4 ⟨I4, own4, τ, q4, rfl⟩
      refine wpIn_seq (wpIn_region_lit ?_)
      refine op_in (C := CE) (K := fun τ => τ = ⟨[(0, .ext (yP l)), (4, .var 4 0), (9, .sl false 3 (it.items.map ItemD.av)), (10, .int .i64 it.items.length), (11, .int .i64 i), (12, .bool (decide ((i : Int) < it.items.length))), (13, .elt (.sl false 3 (it.items.map ItemD.av)) i 0), (14, .agg x.cells), (15, .ext (yP l))], [(4, x.cells)], []⟩) hok (fun c e => by cases e) rfl bare_open q4 ?_ ?_
      · show exec CE (fun _ τ => τ = _) [.ops _ [_]] .normal _
        simp only [go_sem, seval, CE, cellsI_len]
      rintro a5 w5 ⟨I5, own5, τ, q5, rfl⟩
      refine op_in (C := CE) (K := fun τ => τ = ⟨[(0, .ext (yP l)), (4, .var 4 0), (9, .sl false 3 (it.items.map ItemD.av)), (10, .int .i64 it.items.length), (11, .int .i64 i), (12, .bool (decide ((i : Int) < it.items.length))), (13, .elt (.sl false 3 (it.items.map ItemD.av)) i 0), (14, .agg x.cells), (15, .ext (yP l)), (16, .agg x.cells)], [(4, x.cells)], []⟩) hok (fun c e => by cases e) rfl bare_open q5 ?_ ?_
      · show exec CE (fun _ τ => τ = _) [.ops _ [_]] .normal _
        simp only [go_sem, seval, CE, ItemD.cells]
      rintro a6 w6 ⟨I6, own6, τ, q6, rfl⟩
      refine op_in (C := CE) (K := fun τ => τ = ⟨[(0, .ext (yP l)), (4, .var 4 0), (9, .sl false 3 (it.items.map ItemD.av)), (10, .int .i64 it.items.length), (11, .int .i64 i), (12, .bool (decide ((i : Int) < it.items.length))), (13, .elt (.sl false 3 (it.items.map ItemD.av)) i 0), (14, .agg x.cells), (15, .ext (yP l)), (16, .agg x.cells), (17, x.av)], [(4, x.cells)], []⟩) hok (fun c e => by cases e) rfl bare_open q6 ?_ ?_
      · show exec CE (fun _ τ => τ = _) [.ops _ [_]] .normal _
        simp only [go_sem, seval, CE, cellsI_len]
        have hc := c_copied x hxo
        rw [show [x.av] = [AV.agg x.cells] by rw [x.av_eq]] at hc
        refine ex_call (by exact hc) ?_
        rw [x.av_eq]
        simp only [go_sem, seval, CE, cellsI_len]
      rintro a7 w7 ⟨I7, own7, τ, q7, rfl⟩
      have hd7 : a7.defers = [] := q7.defs.1
      have hi7 : Inv i gs I7 w7 := hstep i gs I' w' I7 w7 hi q7.rstep
      have hg7 : ∀ g, g ∈ gs → g < w7.heap.size := fun g h => Nat.lt_of_lt_of_le (hg g h) q7.fr.size
      have hy : a7.eval (.tmp 15) = .func (.yield l) #[] #[] := by
        have e := q7.val (t := 15) (x := .ext (yP l)) rfl rfl
        cases e with
        | ext p J' v hJ h1 hp => exact hp
      have hxa := (q7.val (t := 17) (x := x.av) (by rw [x.av_eq]; rfl) rfl).tt
      refine yield_in rfl rfl hy (hround i x.av _ gs I7 w7 (by rw [heach, List.getElem?_map, ex]; rfl) hi7 q7.imm hxa) ?_
      rintro bb w8 ⟨gs8, I8, hs8, hb8⟩
      have q8 : RI (bare CE w8 I8) I8 (fun _ => none) ⟨[(0, .ext (yP l)), (9, .sl false 3 (it.items.map ItemD.av)), (10, .int .i64 it.items.length), (11, .int .i64 i), (18, .bool bb)], [], []⟩ (a7.put (some 18) (.bool bb)) w8 := by
        have e := q7.fresh (C := CE) (a2 := a7.put (some 18) (.bool bb)) rfl hfix rfl (by show (a7.tmps.setIfInBounds 18 _).size = _; rw [Array.size_setIfInBounds]; exact q7.size) hd7 hs8.le hs8.ok (eachTm l it i) (fun t x hx => by
          have hne : ∀ t, t ≠ 18 → (a7.put (some 18) (.bool bb)).tmps[t]? = a7.tmps[t]? := fun t ht => Array.getElem?_setIfInBounds_ne (Ne.symm ht)
          unfold eachTm at hx
          rcases look_cons hx with ⟨rfl, rfl⟩ | hx
          · exact ⟨rfl, rfl, hne _ (by decide)⟩
          rcases look_cons hx with ⟨rfl, rfl⟩ | hx
          · exact ⟨rfl, rfl, hne _ (by decide)⟩
          rcases look_cons hx with ⟨rfl, rfl⟩ | hx
          · exact ⟨rfl, rfl, hne _ (by decide)⟩
          rcases look_cons hx with ⟨rfl, rfl⟩ | hx
          · exact ⟨rfl, rfl, hne _ (by decide)⟩
          cases hx)
        have hlt : 18 < a7.tmps.size := by rw [q7.size]; exact (by decide : 18 < 21)
        have e2 := e.put (t := 18) (x := .bool bb) (v := .bool bb) rfl rfl (fun _ _ _ e => by cases e) (fun _ e => by cases e) ((srep_imm rfl).2 (.bool _))
        rw [put_same (t := 18) (v := .bool bb) (show (a7.tmps.setIfInBounds 18 _)[18]? = _ from Array.getElem?_setIfInBounds_self_of_lt hlt)] at e2
        exact e2
      refine op_in (C := CE) (K := fun τ => τ = ⟨[(0, .ext (yP l)), (9, .sl false 3 (it.items.map ItemD.av)), (10, .int .i64 it.items.length), (11, .int .i64 i), (18, .bool bb), (19, .bool (!bb))], [], []⟩) hok (fun c e => by cases e) rfl bare_open q8 ?_ ?_
      · show exec CE (fun _ τ => τ = _) [.ops _ [_]] .normal _
        simp only [go_sem, seval, CE]
      rintro a9 w9 ⟨I9, own9, τ, q9, rfl⟩
      refine wpListIn_nil ?_
      cases bb with
      | false =>
        refine wpIn_cond_true (q9.bool (t := 19) rfl) (wpIn_ret ?_)
        refine finR a9 w9 gs8 I9 q9.defs.1 (.inr ?_)
        rcases hb8 with ⟨e, _⟩ | ⟨_, e⟩
        · cases e
        · exact hsstop gs8 I8 w8 I9 w9 e q9.rstep
      | true =>
        have hi8 : Inv (i + 1) gs8 I8 w8 := by
          rcases hb8 with ⟨_, e⟩ | ⟨e, _⟩
          · exact e
          · cases e
        refine wpIn_cond_false (q9.bool (t := 19) rfl) (wpIn_skip ?_)
        show Code.wpIn _ _ _ _ _ a9 w9
        refine reg_in (C := CE) (K := fun τ => τ = ⟨[(0, .ext (yP l)), (9, .sl false 3 (it.items.map ItemD.av)), (10, .int .i64 it.items.length), (11, .int .i64 (i + 1 : Nat)), (18, .bool true), (19, .bool (!true)), (20, .int .i64 (i + 1 : Nat))], [], []⟩) hok (by kernel_rfl) rfl bare_open q9 ?_ (fun ⟨a, w, e⟩ => hout a w e) ?_
        · show exec CE (fun _ τ => τ = _) [.ops _ _] .normal _
          rw [← wi64_nat i (by omega)]
          simp only [go_sem, seval, CE]
        rintro aa ww ⟨II, ownn, τ, qq, rfl⟩
        exact ih (i + 1) gs8 II aa ww (by omega) (by omega) (heads (i + 1) aa ww _ _ _ _ _ qq rfl rfl rfl rfl) (hstep _ _ _ _ _ _ hi8 qq.rstep) (fun g hg => Nat.lt_of_lt_of_le (hs8.mine g hg).2 qq.fr.size)
end Go.Proofs.Ytmngjlgeojbghaa.VA
end
section
namespace Go.Proofs.Ytmngjlgeojbghaa.VA
set_option maxRecDepth 10000
set_option maxHeartbeats 1000000

theorem c_item_Check (it : ItemD) (h : WideI it) : Contract Try.prog 17 [it.av] (.int .i64 (if okI 0 it = true then 0 else 1)) := by
  have hc := c_item_long it h 0 (by omega)
  rw [ItemD.av_eq] at hc
  refine contract_of (C := cf 12 [1, 2, 4, 11] (fun _ => [])) (cf_ok _ _ _) (fn := Try.f17) Try.func17 (by kernel_rfl) rfl (by kernel_rfl) (by simp [cf]) (plain1 it.plain) (by decide) (noCell (by kernel_rfl)) ?_
  cases ho : okI 0 it with
  | true =>
    rw [ho] at hc
    simp only [go_sem, seval, ItemD.av_eq, ItemD.cells]
    refine ex_call (by exact hc) ?_
    simp only [go_sem, seval]
    refine finOne ?_ (fun _ e => by cases e)
    show resOf _ _ [.tmp 2] = _
    simp only [go_sem, seval]
  | false =>
    rw [ho] at hc
    simp only [go_sem, seval, ItemD.av_eq, ItemD.cells]
    refine ex_call (by exact hc) ?_
    simp only [go_sem, seval]
    refine finOne ?_ (fun _ e => by cases e)
    show resOf _ _ [.tmp 2] = _
    simp only [go_sem, seval]
end Go.Proofs.Ytmngjlgeojbghaa.VA
end
section
namespace Go.Proofs.Ytmngjlgeojbghaa.VA
set_option maxRecDepth 10000
set_option maxHeartbeats 1000000

def bytesAv (bs : List UInt8) : AV := .own false 1 (bs.map u8)
theorem bytesAv_plain (bs : List UInt8) : Plain (bytesAv bs) := .own _ _ _ (fun c hc => by obtain ⟨x, _, rfl⟩ := List.mem_map.1 hc; exact .int _ _)
def ownL (f : FuncId) : List Nat := if Nat.beq f 18 = true then [0] else if Nat.beq f 24 = true then [0] else []
theorem ownL_laid : ownL 18 = [0] := rfl
theorem ownL_front : ownL 24 = [0] := rfl
theorem ownL_Each : ownL 23 = [] := rfl
theorem ownL_alone : ownL 25 = [] := rfl
theorem c_laid (it : ItemD) (h : it.ok) (bs : List UInt8) (hb : bs.length ≤ 4294967296) : Contract Try.prog 18 [bytesAv bs, it.av] (bytesAv (bs ++ rawOf it)) := by
  have ih : ∀ x, x ∈ it.items → ∀ bs : List UInt8, bs.length ≤ 4294967296 → Contract Try.prog 18 [bytesAv bs, x.av] (bytesAv (bs ++ rawOf x)) := fun x hx bs hb => c_laid x (h.all x hx) bs hb
  have ht := h.text
  have hn := h.num
  have hle := rawOf_le it h
  have hok := h
  unfold ItemD.ok at hok
  cases hl : it.list with
  | false =>
    refine contract_of (C := cf 36 [0, 3, 4, 5, 6, 7, 11, 12, 22] ( ownL)) (cf_ok _ _ _) (fn := Try.f18) Try.func18 (by kernel_rfl) rfl (by kernel_rfl) (by simp [cf]) (plain2 (bytesAv_plain bs) it.plain) (by decide) (noCell (by kernel_rfl)) ?_
    rw [rawOf_text hl]
    simp only [go_sem, seval, bytesAv, ItemD.av_eq, ItemD.cells, hl, ownL_laid, ownL_front, ownL_Each, ownL_alone]
    refine ex_call (by exact c_item_alone it.text (by omega)) ?_
    cases ha : aloneB it.text with
    | true =>
      rw [if_pos rfl]
      simp only [go_sem, seval, List.length_map]
      repeat with_reducible refine And.intro (by first | omega | (simp only [List.length_cons, List.length_append, List.length_nil, List.length_map, List.length_take, List.length_drop, List.length_set]; omega)) ?_
      refine finOne ?_ (fun _ e => by cases e)
      show resOf _ _ [.tmp 4] = _
      simp only [go_sem, seval, List.map_append]
    | false =>
      rw [if_neg (by simp)]
      have hh := headB_len it.text.length 128
      have hah := ahead_le (n := it.text.length) (by omega)
      simp only [go_sem, seval, ownL_laid, ownL_front, ownL_Each, ownL_alone]
      refine ex_call (by exact c_item_front bs 128 it.text.length (by omega) (by omega) (by omega)) ?_
      simp only [go_sem, seval, List.length_map, List.length_append]
      repeat with_reducible refine And.intro (by first | omega | (simp only [List.length_cons, List.length_append, List.length_nil, List.length_map, List.length_take, List.length_drop, List.length_set]; omega)) ?_
      refine finOne ?_ (fun _ e => by cases e)
      show resOf _ _ [.tmp 4] = _
      simp only [go_sem, seval, List.map_append, List.append_assoc]
  | true =>
    have heach : eachOf it = it.items.map ItemD.av := by unfold eachOf; rw [hl]; rfl
    have hce := c_Each it
    rw [ItemD.av_eq] at hce
    rw [rawOf_list hl]
    rw [rawOf_list hl, List.length_append] at hle
    refine contract_of (C := cf 36 [0, 3, 4, 5, 6, 7, 11, 12, 22] ( ownL)) (cf_ok _ _ _) (fn := Try.f18) Try.func18 (by kernel_rfl) rfl (by kernel_rfl) (by simp [cf]) (plain2 (bytesAv_plain bs) it.plain) (by decide) (noCell (by kernel_rfl)) ?_
    simp only [go_sem, seval, bytesAv, ItemD.av_eq, ItemD.cells, hl, ownL_laid, ownL_front, ownL_Each, ownL_alone]
    refine ex_call (by simpa only [ItemD.cells, hl] using hce) ?_
    simp only [go_sem, seval, ItemD.cells, hl]
    refine ex_range [5] 12 (cloP 28 it.cells) (eachOf it) (fun i => [(5, [bytesAv (raws (it.items.take i))])]) ⟨rfl, rfl, rfl, by decide, by decide, rfl, ?_, iter_each it h, (by rw [List.take_zero, raws_nil]; rfl), plainVs_one (all_cons (plainV_of (bytesAv_plain _)) all_nil), fun _ => rfl⟩ (fun i x hx => ?_) ?_
    · show AV.ext _ = AV.ext (cloP _ it.cells)
      rw [ItemD.cells, hl]
    · obtain ⟨y, ey, rfl⟩ : ∃ y, it.items[i]? = some y ∧ y.av = x := by
        rw [heach, List.getElem?_map, Option.map_eq_some_iff] at hx
        exact hx
      have hm := List.mem_of_getElem? ey
      have hsnoc : raws (it.items.take i) ++ rawOf y = raws (it.items.take (i + 1)) := by
        rw [List.take_add_one, ey]
        show _ = raws (_ ++ [y])
        rw [raws_append, raws_cons, raws_nil, List.append_nil]
      have hpre : (raws (it.items.take (i + 1))).length ≤ (raws it.items).length := by
        conv => rhs; rw [← List.take_append_drop (i + 1) it.items, raws_append, List.length_append]
        omega
      have hy := ih y hm (raws (it.items.take i)) (by rw [← hsnoc, List.length_append] at hpre; omega)
      rw [hsnoc, y.av_eq] at hy
      rw [y.av_eq]
      refine ⟨rfl, ?_⟩
      simp only [go_sem, seval, cellsI_len, bytesAv, ItemD.cells, ownL_laid, ownL_front, ownL_Each, ownL_alone]
      refine ex_call (by exact hy) ?_
      simp only [go_sem, seval, bytesAv]
    · rw [heach, List.length_map, List.take_length]
      have hh := headB_len (raws it.items).length 192
      have hah := ahead_le (n := (raws it.items).length) (by omega)
      simp only [go_sem, seval, bytesAv]
      refine ex_draw [] [] (.quiet 0 (.quiet 1 (.quiet 2 (.quiet 4 (.one 3 (.one 5 (.quiet 6 (.fin)))))))) (by kernel_rfl) ?_
      simp only [go_sem, seval, bytesAv, List.length_map, ownL_laid, ownL_front, ownL_Each, ownL_alone]
      refine ex_call (by exact c_item_front bs 192 (raws it.items).length (by omega) (by omega) (by omega)) ?_
      simp only [go_sem, seval, bytesAv, List.length_map, List.length_append]
      refine ⟨by omega, ?_⟩
      refine finOne ?_ (fun _ e => by cases e)
      show resOf _ _ [.tmp 4] = _
      simp only [go_sem, seval, List.map_append, List.append_assoc]
termination_by SizeOf.sizeOf it
decreasing_by exact item_lt hx
theorem ownL_Check : ownL 17 = [] := rfl
def bytesI (it : ItemD) : List UInt8 := if okI 0 it = true then rawOf it else []
theorem wt_raw (it : ItemD) (d : Nat) (h : okI d it = true) : it.wt ≤ 2 * (rawOf it).length := by
  have ih : ∀ x, x ∈ it.items → okI (d + 1) x = true → x.wt ≤ 2 * (rawOf x).length := fun x hx hd => wt_raw x (d + 1) hd
  rw [wt_eq]
  cases hl : it.list with
  | false =>
    rw [okI_text d hl, Bool.and_eq_true, List.isEmpty_iff] at h
    rw [h.1, wts_nil, rawOf_text hl]
    split
    · rename_i ha; rw [alone_len ha]; omega
    · rw [List.length_append, headB_len]
      have := ahead_pos it.text.length
      omega
  | true =>
    rw [okI_list d hl] at h
    simp only [Bool.and_eq_true, List.isEmpty_iff] at h
    obtain ⟨⟨⟨h1, _⟩, h3⟩, _⟩ := h
    have key : ∀ xs : List ItemD, (∀ x, x ∈ xs → x.wt ≤ 2 * (rawOf x).length) → wts xs ≤ 2 * (raws xs).length := by
      intro xs
      induction xs with
      | nil => intro _; rw [wts_nil]; omega
      | cons x xs ihx =>
        intro hx
        rw [wts_cons, raws_cons, List.length_append]
        have := hx x (by simp)
        have := ihx fun y hy => hx y (List.mem_cons_of_mem _ hy)
        omega
    have := key it.items fun x hx => ih x hx (okIs_mem h3 x hx)
    rw [h1, rawOf_list hl, List.length_append, headB_len]
    have := ahead_pos (raws it.items).length
    simp only [List.length_nil]
    omega
termination_by SizeOf.sizeOf it
decreasing_by exact item_lt hx
theorem okI_small {d : Nat} {it : ItemD} (h : okI d it = true) : it.ok := by
  have h1 := wt_raw it d h
  have h2 : (rawOf it).length ≤ 65536 := by
    cases hl : it.list with
    | false => rw [okI_text d hl, Bool.and_eq_true, decide_eq_true_eq] at h; exact h.2
    | true => rw [okI_list d hl, Bool.and_eq_true, decide_eq_true_eq] at h; exact h.2
  unfold ItemD.ok
  omega
theorem c_item_BytesW (it : ItemD) (h : WideI it) : Contract Try.prog 7 [it.av] (.tup [.str (bytesI it), .int .i64 (if okI 0 it = true then 0 else 1)]) := by
  have hc := c_item_Check it h
  rw [ItemD.av_eq] at hc
  unfold bytesI
  refine contract_of (C := cf 13 [1, 2, 3, 4, 8] ( ownL)) (cf_ok _ _ _) (fn := Try.f7) Try.func7 (by kernel_rfl) rfl (by kernel_rfl) (by simp [cf]) (plain1 it.plain) (by decide) (noCell (by kernel_rfl)) ?_
  cases ho : okI 0 it with
  | true =>
    have hl := c_laid it (okI_small ho) [] (by simp)
    rw [ItemD.av_eq] at hl
    unfold bytesAv at hl
    rw [List.nil_append] at hl
    rw [ho] at hc
    simp only [go_sem, seval, ItemD.av_eq, ItemD.cells, ownL_Check]
    refine ex_call (by exact hc) ?_
    simp only [go_sem, seval, ownL_laid]
    refine ex_call (by exact hl) ?_
    simp only [go_sem, seval, asU8_map]
    refine finTup ?_
    show resOf _ _ [.tmp 2, .tmp 3] = _
    simp only [go_sem, seval]
  | false =>
    rw [ho] at hc
    simp only [go_sem, seval, ItemD.av_eq, ItemD.cells, ownL_Check]
    refine ex_call (by exact hc) ?_
    simp only [go_sem, seval]
    refine finTup ?_
    show resOf _ _ [.tmp 2, .tmp 3] = _
    simp only [go_sem, seval]
theorem c_item_Bytes (it : ItemD) (h : it.ok) : Contract Try.prog 7 [it.av] (.tup [.str (bytesI it), .int .i64 (if okI 0 it = true then 0 else 1)]) := c_item_BytesW it h.wide
theorem c_law4_wakes : Contract Try.prog 11 [] (.bool true) := by
  have hb := c_item_Bytes (.mk true [] [.mk false [97] [], .mk false [] []]) (by unfold ItemD.ok; decide +kernel)
  have hbs : bytesI (.mk true [] [.mk false [97] [], .mk false [] []]) = [194, 97, 128] := by decide +kernel
  have ho : okI 0 (.mk true [] [.mk false [97] [], .mk false [] []]) = true := by decide +kernel
  have hav : (ItemD.mk true [] [.mk false [97] [], .mk false [] []]).av = .agg [.bool true, .str [], .sl false 3 [.agg [.bool false, .str [97], .sl false 3 []], .agg [.bool false, .str [], .sl false 3 []]]] := by
    simp only [ItemD.av, ItemD.avs]
  rw [hbs, ho, hav] at hb
  have leaf : ∀ s : List UInt8, Dull (.agg [.bool false, .str s, .ext nilP]) (.agg [.bool false, .str s, .sl false 3 []]) := fun s => dulls_agg (.cons (.refl _) (.cons (.refl _) (.cons (.nil _ _) .nil)))
  have hrow : Dull (.sl true 3 [.agg [.bool false, .str [97], .ext nilP], .agg [.bool false, .str [], .ext nilP]]) (.sl false 3 [.agg [.bool false, .str [97], .sl false 3 []], .agg [.bool false, .str [], .sl false 3 []]]) :=
    .sl _ _ _ _ rfl fun j x y h k => by
      match j, h, k with
      | 0, h, k => cases h; cases k; exact leaf _
      | 1, h, k => cases h; cases k; exact leaf _
      | j + 2, h, k => cases h
  have hd : Dull (.agg [.bool true, .str [], .sl true 3 [.agg [.bool false, .str [97], .ext nilP], .agg [.bool false, .str [], .ext nilP]]]) (.agg [.bool true, .str [], .sl false 3 [.agg [.bool false, .str [97], .sl false 3 []], .agg [.bool false, .str [], .sl false 3 []]]]) :=
    dulls_agg (.cons (.refl _) (.cons (.refl _) (.cons hrow .nil)))
  refine contract_of (C := cf 18 [0, 1, 2] (fun _ => [])) (cf_ok _ _ _) (fn := Try.f11) Try.func11 (by kernel_rfl) rfl (by kernel_rfl) (by simp [cf]) (fun _ h => by cases h) (by decide) (noCell (by kernel_rfl)) ?_
  simp only [go_sem, seval]
  refine ex_call_dull (.cons hd .nil) (by exact hb) ?_
  simp only [go_sem, seval]
  refine ex_call (by exact c_law4_num 0) ?_
  simp only [go_sem, seval]
  refine finOne ?_ (fun _ e => by cases e)
  show resOf _ _ [.tmp 0] = _
  simp only [go_sem, seval]
end Go.Proofs.Ytmngjlgeojbghaa.VA
end
section
namespace Go.Proofs.Ytmngjlgeojbghaa.VA
theorem ex_cut {α : Type} {C : Cfg} {Q : AEx → ASt → Prop} {k : List Todo} {t : Todo} {σ : ASt} (st : α → ASt) (p : α → Prop) (h2 : ∀ a, p a → exec C Q k .normal (st a))
    (h1 : ∀ κ : List Todo, (∀ a, p a → exec C Q κ .normal (st a)) → exec C Q (t :: κ) .normal σ) : exec C Q (t :: k) .normal σ := h1 k h2
theorem ex_cut2 {α : Type} {C : Cfg} {Q : AEx → ASt → Prop} {k : List Todo} {t u : Todo} {σ : ASt} (st : α → ASt) (p : α → Prop) (h2 : ∀ a, p a → exec C Q k .normal (st a))
    (h1 : ∀ κ : List Todo, (∀ a, p a → exec C Q κ .normal (st a)) → exec C Q (t :: u :: κ) .normal σ) : exec C Q (t :: u :: k) .normal σ := h1 k h2
theorem ex_ret_any {C : Cfg} {Q : AEx → ASt → Prop} : ∀ {k : List Todo} {σ : ASt}, Q .ret σ → exec C Q k .ret σ
  | [], _, h => h
  | t :: k, σ, h => by
    have ih := ex_ret_any (C := C) (k := k) h
    cases t <;> first | exact ih | (rename_i b _ _; cases b <;> exact ih)
end Go.Proofs.Ytmngjlgeojbghaa.VA
end
section
namespace Go.Proofs.Ytmngjlgeojbghaa.VA
set_option maxRecDepth 10000

theorem heavy_no {it : ItemD} {s : List UInt8} (h : heavyI it s = false) : it.wt ≤ 70000 ∧ s.length ≤ 70000 := by
  unfold heavyI at h
  simp only [Bool.or_eq_false_iff, decide_eq_false_iff_not] at h
  have := wtOf_full it (by omega)
  omega
abbrev itA (it : ItemD) : AV := .agg [.bool it.list, .str it.text, .sl false 3 (it.items.map ItemD.av)]
theorem itA_av (it : ItemD) : it.av = itA it := it.av_eq
theorem c_EqI (a b : ItemD) (ha : a.ok) (hb : b.ok) : Contract Try.prog 10 [.agg [.bool a.list, .str a.text, .sl false 3 (a.items.map ItemD.av)], .agg [.bool b.list, .str b.text, .sl false 3 (b.items.map ItemD.av)]] (.bool (decide (a = b))) := by
  have h := c_EqItem a b ha hb
  rw [itA_av a, itA_av b] at h
  exact h
theorem c_BytesI (a : ItemD) (ha : a.ok) : Contract Try.prog 7 [.agg [.bool a.list, .str a.text, .sl false 3 (a.items.map ItemD.av)]] (.tup [.str (bytesI a), .int .i64 (if okI 0 a = true then 0 else 1)]) := by
  have h := c_item_Bytes a ha
  rw [itA_av a] at h
  exact h
theorem c_CheckI (a : ItemD) (ha : a.ok) : Contract Try.prog 17 [.agg [.bool a.list, .str a.text, .sl false 3 (a.items.map ItemD.av)]] (.int .i64 (if okI 0 a = true then 0 else 1)) := by
  have h := c_item_Check a ha.wide
  rw [itA_av a] at h
  exact h
theorem nil_ok : (ItemD.mk false [] []).ok := by unfold ItemD.ok; decide +kernel
theorem bytesI_le (a : ItemD) : (bytesI a).length ≤ 65536 := by
  unfold bytesI
  split
  · rename_i h
    cases hl : a.list with
    | false => rw [okI_text 0 hl, Bool.and_eq_true, decide_eq_true_eq] at h; exact h.2
    | true => rw [okI_list 0 hl, Bool.and_eq_true, decide_eq_true_eq] at h; exact h.2
  · simp
end Go.Proofs.Ytmngjlgeojbghaa.VA
end
section
namespace Go.Proofs.Ytmngjlgeojbghaa.VA
set_option maxRecDepth 10000
set_option maxHeartbeats 4000000

/-- How much an item weighs, in the machine's numbers. -/
def wtW : ItemD → Int
  | .mk _ t xs => wtGoW (IntKind.i64.wrap (1 + (t.length : Int))) xs
where wtGoW : Int → List ItemD → Int
  | n, [] => n
  | n, x :: xs => if n < 1048576 then wtGoW (IntKind.i64.wrap (n + wtW x)) xs else n
theorem wtW_eq (it : ItemD) : wtW it = wtW.wtGoW (IntKind.i64.wrap (1 + (it.text.length : Int))) it.items := by cases it; rw [wtW]; rfl
theorem wtGoW_nil (n : Int) : wtW.wtGoW n [] = n := by rw [wtW.wtGoW]
theorem wtGoW_cons (n : Int) (x : ItemD) (xs : List ItemD) : wtW.wtGoW n (x :: xs) = if n < 1048576 then wtW.wtGoW (IntKind.i64.wrap (n + wtW x)) xs else n := by rw [wtW.wtGoW]
theorem wtGoW_end {n : Int} {xs : List ItemD} (h : ¬ n < 1048576) : wtW.wtGoW n xs = n := by
  cases xs with
  | nil => exact wtGoW_nil n
  | cons x xs => rw [wtGoW_cons, if_neg h]
theorem wtGoW_drop {n : Int} {xs : List ItemD} {i : Nat} {x : ItemD} (e : xs[i]? = some x) (h : n < 1048576) : wtW.wtGoW n (xs.drop i) = wtW.wtGoW (IntKind.i64.wrap (n + wtW x)) (xs.drop (i + 1)) := by
  obtain ⟨hi, rfl⟩ := List.getElem?_eq_some_iff.1 e
  rw [← List.getElem_cons_drop hi, wtGoW_cons, if_pos h]
theorem c_ItemWeightW (it : ItemD) (h : WideI it) : Contract Try.prog 15 [it.av] (.int .i64 (wtW it)) := by
  have ih : ∀ x, x ∈ it.items → Contract Try.prog 15 [x.av] (.int .i64 (wtW x)) := fun x hx => c_ItemWeightW x (h.all x hx)
  have ht := h.text
  have hn := h.num
  unfold reachBytes at ht hn
  refine contract_of (C := cf 29 [1, 2, 3, 4, 17] (fun _ => [])) (cf_ok _ _ _) (fn := Try.f15) Try.func15 (by kernel_rfl) rfl (by kernel_rfl) (by simp [cf]) (plain1 it.plain) (by decide) (noCell (by kernel_rfl)) ?_
  simp only [go_sem, seval, ItemD.av_eq, ItemD.cells]
  refine ex_iter [1, 3, 4] (fun q : Nat × Int => ⟨[(1, .var 1 0), (3, .int .i64 q.2), (4, .int .i64 (q.1 : Nat))], [(1, it.cells)], []⟩)
    (fun q => q.1 ≤ it.items.length ∧ wtW.wtGoW q.2 (it.items.drop q.1) = wtW it) (fun q => it.items.length - q.1) (0, IntKind.i64.wrap (1 + (it.text.length : Int))) ?_ ?_ ?_
  · simp only [ASt.keep, consIf, keepL, keepV, AV.isBot, List.contains_cons, List.contains_nil, Nat.reduceBEq, Bool.or_false, Bool.false_or, Bool.or_true, Bool.true_or, beq_self_eq_true, Bool.false_eq_true, ↓reduceIte, if_false, if_true]
    rfl
  · exact ⟨Nat.zero_le _, (wtW_eq it).symm⟩
  · rintro r ⟨i, n⟩ hinv next
    obtain ⟨hi, hw⟩ : i ≤ it.items.length ∧ wtW.wtGoW n (it.items.drop i) = wtW it := hinv
    simp only [go_sem, seval, List.length_map, ItemD.cells]
    refine ex_joinB 17 (decide (i < it.items.length) && decide (n < 1048576)) ?_ ?_
    · repeat' (first | (refine ex_split (fun h => ?_) (fun h => ?_)) | (with_reducible refine And.intro (by omega) ?_) |
        (simp only [go_sem, seval, List.length_map, ItemD.cells]))
      all_goals (try simp only [ASt.mk.injEq, List.cons.injEq, Prod.mk.injEq, AV.bool.injEq, true_and, and_true, eq_self])
      all_goals first | (simp_all; done) | (simp_all; omega) | (rw [Bool.eq_iff_iff]; simp only [List.length_map, Bool.or_eq_true, Bool.and_eq_true, Bool.not_eq_true', Bool.not_eq_false', decide_eq_true_eq, decide_eq_false_iff_not, bne_iff_ne, beq_iff_eq, ne_eq, true_iff, iff_true, false_iff, iff_false, Bool.false_eq_true, not_false_eq_true, not_true_eq_false] at *; omega)
    simp only [go_sem, seval]
    refine ex_br (fun hc => ?_) (fun hc => ?_)
    · have hlt : i < it.items.length ∧ n < 1048576 := by simpa using hc
      obtain ⟨x, ex⟩ : ∃ x, it.items[i]? = some x := ⟨_, List.getElem?_eq_getElem hlt.1⟩
      have hx := ih x (List.mem_of_getElem? ex)
      rw [ItemD.av_eq] at hx
      simp only [go_sem, seval, List.length_map, List.getElem?_map, ex, Int.toNat_natCast, ItemD.av_eq, ItemD.cells]
      repeat with_reducible refine And.intro (by first | omega | (simp only [List.length_cons, List.length_append, List.length_nil, List.length_map, List.length_take, List.length_drop, List.length_set]; omega)) ?_
      try simp only [go_sem, seval, ItemD.cells]
      refine ex_call (by exact hx) ?_
      simp only [go_sem, seval]
      refine next (i + 1, IntKind.i64.wrap (n + wtW x)) _ ⟨by simp only; omega, by simp only; rw [← wtGoW_drop ex hlt.2]; exact hw⟩ (by simp only; omega) ?_
      simp only
      rw [← wi64_nat i (by omega)]
      simp only [ASt.keep, consIf, keepL, keepV, AV.isBot, List.contains_cons, List.contains_nil, Nat.reduceBEq, Bool.or_false, Bool.false_or, Bool.or_true, Bool.true_or, beq_self_eq_true, Bool.false_eq_true, ↓reduceIte, if_false, if_true]
      rfl
    · have e : wtW it = n := by
        rw [← hw]
        by_cases h1 : n < 1048576
        · have : i = it.items.length := by simp [h1] at hc; omega
          rw [this, List.drop_length]; exact wtGoW_nil n
        · exact wtGoW_end h1
      simp only [go_sem, seval, e]
      refine finOne ?_ (fun _ e => by cases e)
      show resOf _ _ [.tmp 2] = _
      simp only [go_sem, seval]
termination_by SizeOf.sizeOf it
decreasing_by exact item_lt hx
/-- How deep an item is, in the machine's numbers. -/
def dpW : ItemD → Int
  | .mk _ _ xs => IntKind.i64.wrap (dpGoW 0 xs + 1)
where dpGoW : Int → List ItemD → Int
  | n, [] => n
  | n, x :: xs => dpGoW (if dpW x > n then dpW x else n) xs
theorem dpW_eq (it : ItemD) : dpW it = IntKind.i64.wrap (dpW.dpGoW 0 it.items + 1) := by cases it; rw [dpW]; rfl
theorem dpGoW_nil (n : Int) : dpW.dpGoW n [] = n := by rw [dpW.dpGoW]
theorem dpGoW_cons (n : Int) (x : ItemD) (xs : List ItemD) : dpW.dpGoW n (x :: xs) = dpW.dpGoW (if dpW x > n then dpW x else n) xs := by rw [dpW.dpGoW]
theorem dpGoW_drop {n : Int} {xs : List ItemD} {i : Nat} {x : ItemD} (e : xs[i]? = some x) : dpW.dpGoW n (xs.drop i) = dpW.dpGoW (if dpW x > n then dpW x else n) (xs.drop (i + 1)) := by
  obtain ⟨hi, rfl⟩ := List.getElem?_eq_some_iff.1 e
  rw [← List.getElem_cons_drop hi, dpGoW_cons]
theorem c_DeepW (it : ItemD) (h : WideI it) : Contract Try.prog 16 [it.av] (.int .i64 (dpW it)) := by
  have ih : ∀ x, x ∈ it.items → Contract Try.prog 16 [x.av] (.int .i64 (dpW x)) := fun x hx => c_DeepW x (h.all x hx)
  have hn := h.num
  unfold reachBytes at hn
  refine contract_of (C := cf 22 [1, 2, 3, 4, 9] (fun _ => [])) (cf_ok _ _ _) (fn := Try.f16) Try.func16 (by kernel_rfl) rfl (by kernel_rfl) (by simp [cf]) (plain1 it.plain) (by decide) (noCell (by kernel_rfl)) ?_
  simp only [go_sem, seval, ItemD.av_eq, ItemD.cells]
  refine ex_iter [1, 3, 4] (fun q : Nat × Int => ⟨[(1, .var 1 0), (3, .int .i64 q.2), (4, .int .i64 (q.1 : Nat))], [(1, it.cells)], []⟩)
    (fun q => q.1 ≤ it.items.length ∧ IntKind.i64.wrap (dpW.dpGoW q.2 (it.items.drop q.1) + 1) = dpW it) (fun q => it.items.length - q.1) (0, 0) ?_ ?_ ?_
  · simp only [ASt.keep, consIf, keepL, keepV, AV.isBot, List.contains_cons, List.contains_nil, Nat.reduceBEq, Bool.or_false, Bool.false_or, Bool.or_true, Bool.true_or, beq_self_eq_true, Bool.false_eq_true, ↓reduceIte, if_false, if_true]
    rfl
  · exact ⟨Nat.zero_le _, (dpW_eq it).symm⟩
  · rintro r ⟨i, n⟩ hinv next
    obtain ⟨hi, hw⟩ : i ≤ it.items.length ∧ IntKind.i64.wrap (dpW.dpGoW n (it.items.drop i) + 1) = dpW it := hinv
    simp only [go_sem, seval, List.length_map, ItemD.cells]
    refine ex_br (fun hc => ?_) (fun hc => ?_)
    · have hlt : i < it.items.length := by simpa using hc
      obtain ⟨x, ex⟩ : ∃ x, it.items[i]? = some x := ⟨_, List.getElem?_eq_getElem hlt⟩
      have hx := ih x (List.mem_of_getElem? ex)
      rw [ItemD.av_eq] at hx
      simp only [go_sem, seval, List.length_map, List.getElem?_map, ex, Int.toNat_natCast, ItemD.av_eq, ItemD.cells]
      repeat with_reducible refine And.intro (by first | omega | (simp only [List.length_cons, List.length_append, List.length_nil, List.length_map, List.length_take, List.length_drop, List.length_set]; omega)) ?_
      try simp only [go_sem, seval, ItemD.cells]
      refine ex_call (by exact hx) ?_
      simp only [go_sem, seval]
      refine next (i + 1, if dpW x > n then dpW x else n) _ ⟨by simp only; omega, by simp only; rw [← dpGoW_drop ex]; exact hw⟩ (by simp only; omega) ?_
      simp only
      rw [← wi64_nat i (by omega)]
      simp only [ASt.keep, consIf, keepL, keepV, AV.isBot, List.contains_cons, List.contains_nil, Nat.reduceBEq, Bool.or_false, Bool.false_or, Bool.or_true, Bool.true_or, beq_self_eq_true, Bool.false_eq_true, ↓reduceIte, if_false, if_true]
      rfl
    · have : i = it.items.length := by simp at hc; omega
      subst this
      rw [List.drop_length, dpGoW_nil] at hw
      simp only [go_sem, seval, hw]
      refine finOne ?_ (fun _ e => by cases e)
      show resOf _ _ [.tmp 2] = _
      simp only [go_sem, seval, hw]
termination_by SizeOf.sizeOf it
decreasing_by exact item_lt hx
def heavyW (it : ItemD) (s : List UInt8) : Bool := decide (wtW it > 70000) || decide (dpW it > 40) || decide (s.length > 70000)
theorem heavyW_no {it : ItemD} {s : List UInt8} (h : heavyW it s = false) : s.length ≤ 70000 := by
  unfold heavyW at h
  simp only [Bool.or_eq_false_iff, decide_eq_false_iff_not] at h
  omega
theorem c_law4_heavyW (it : ItemD) (s : List UInt8) (h : WideI it) (hs : s.length ≤ reachBytes) : Contract Try.prog 6 [askAv it s] (.bool (heavyW it s)) := by
  unfold reachBytes at hs
  have h1 := c_ItemWeightW it h
  have h2 := c_DeepW it h
  rw [ItemD.av_eq] at h1 h2
  have e3 : decide ((s.length : Int) > 70000) = decide (s.length > 70000) := decide_congr (by omega)
  refine contract_of (C := cf 19 [1, 2] (fun _ => [])) (cf_ok _ _ _) (fn := Try.f6) Try.func6 (by kernel_rfl) rfl (by kernel_rfl) (by simp [cf]) (plain1 (askAv_plain it s)) (by decide) (noCell (by kernel_rfl)) ?_
  simp only [go_sem, seval, askAv, ItemD.cells]
  refine ex_call (by exact h1) ?_
  unfold heavyW
  cases b1 : decide (wtW it > 70000)
  · simp only [go_sem, seval, b1]
    refine ex_call (by exact h2) ?_
    cases b2 : decide (dpW it > 40)
    · simp only [go_sem, seval, b1, b2, e3]
      refine finOne ?_ (fun _ e => by cases e)
      show resOf _ _ [.tmp 2] = _
      simp only [go_sem, seval]
    · simp only [go_sem, seval, b1, b2]
      refine finOne ?_ (fun _ e => by cases e)
      show resOf _ _ [.tmp 2] = _
      simp only [go_sem, seval]
  · simp only [go_sem, seval, b1]
    refine finOne ?_ (fun _ e => by cases e)
    show resOf _ _ [.tmp 2] = _
    simp only [go_sem, seval]
theorem all_map {α : Type} {f : α → AV} {p : α → Prop} : ∀ es : List AV, (∀ y ∈ es, ∃ a, y = f a ∧ p a) → ∃ l : List α, es = l.map f ∧ ∀ a ∈ l, p a
  | [], _ => ⟨[], rfl, fun a h => by cases h⟩
  | y :: es, hall => by
    obtain ⟨l, rfl, hl⟩ := all_map es fun x hx => hall x (List.mem_cons_of_mem _ hx)
    obtain ⟨a, rfl, ha⟩ := hall y (by simp)
    exact ⟨a :: l, rfl, fun b hb => by
      rcases List.mem_cons.1 hb with rfl | hb
      · exact ha
      · exact hl b hb⟩
theorem ty_itemW : ∀ (n : Nat) {x : AV}, Ty ti 26 x → x.bulk ≤ n → ∃ it : ItemD, x = it.av ∧ WideI it := by
  intro n
  induction n with
  | zero =>
    intro x h hb
    cases x <;> simp [AV.bulk] at hb
  | succ n ih =>
    intro x h hb
    obtain ⟨xs, rfl, hl, hf⟩ := ty_struct rfl h
    have hl : xs.length = 3 := hl
    match xs, hl with
    | [a, b, c], _ =>
      have ha := hf 0 _ _ _ _ rfl rfl
      have hb' := hf 1 _ _ _ _ rfl rfl
      have hc := hf 2 _ _ _ _ rfl rfl
      obtain ⟨l, rfl⟩ := ty_bool rfl ha
      obtain ⟨t, rfl, ht⟩ := ty_str rfl hb'
      obtain ⟨es, rfl, hlen, hes⟩ := ty_slice rfl hc
      have hb2 : AV.bulks es ≤ n := by
        simp only [List.flatMap_cons, List.flatMap_nil, AV.flat, AV.bulk, AV.bulks, List.cons_append, List.nil_append] at hb
        omega
      obtain ⟨is, rfl, his⟩ := all_map (f := ItemD.av) (p := WideI) es fun y hy => ih (hes y hy) (Nat.le_trans (bulks_mem hy) hb2)
      refine ⟨.mk l t is, ?_, .mk l t is ht ?_ his⟩
      · rw [ItemD.av, avs_map]
        rfl
      · rw [List.length_map] at hlen
        have : (1 : Nat) ≤ 48 := by decide
        omega
structure Ask4.wide (a : Ask4) : Prop where
  it : WideI a.it
  s : a.s.length ≤ reachBytes
theorem ty_asks4W {x : AV} (h : Ty ti 22 x) : ∃ l : List Ask4, x = asks4 l ∧ l.length ≤ 281474976710656 ∧ ∀ a ∈ l, a.wide := by
  obtain ⟨es, rfl, hlen, hes⟩ := ty_slice rfl h
  have each : ∀ y ∈ es, ∃ a : Ask4, y = a.av ∧ a.wide := fun y hy => by
    obtain ⟨xs, rfl, hl, hf⟩ := ty_struct rfl (hes y hy)
    have hl : xs.length = 2 := hl
    match xs, hl with
    | [p, q], _ =>
      have hp := hf 0 _ _ _ _ rfl rfl
      have hq := hf 1 _ _ _ _ rfl rfl
      obtain ⟨it, rfl, hw⟩ := ty_itemW _ hp (Nat.le_refl _)
      obtain ⟨s, rfl, hs⟩ := ty_str rfl hq
      refine ⟨⟨it, s⟩, ?_, hw, hs⟩
      simp only [List.flatMap_cons, List.flatMap_nil, ItemD.av_eq, AV.flat, Ask4.av, askAv]
      rfl
  obtain ⟨l, rfl, hl⟩ := all_map (f := Ask4.av) (p := Ask4.wide) es each
  refine ⟨l, rfl, ?_, hl⟩
  rw [List.length_map] at hlen
  unfold reachBytes at hlen
  omega
end Go.Proofs.Ytmngjlgeojbghaa.VA
end
section
namespace Go.Proofs.Ytmngjlgeojbghaa.VA

def hdLen (b : UInt8) : Nat := if 192 ≤ b.toNat then b.toNat - 192 else b.toNat - 128
def hdRest (l : Bool) (m : Nat) (t : List UInt8) : Except Nat (Bool × Nat × Nat) :=
  if m ≤ 55 then .ok (l, 1, m)
  else if t.length < m - 55 then .error 7
  else if t.head? = some 0 then .error 1
  else if numOf (t.take (m - 55)) > 65536 ∨ numOf (t.take (m - 55)) ≤ 55 then .error 1
  else .ok (l, 1 + (m - 55), numOf (t.take (m - 55)))
/-- What the first bytes tell: a list or a text, where what is in it begins, how long that is. -/
def hdOf : List UInt8 → Except Nat (Bool × Nat × Nat)
  | [] => .error 7
  | b :: t => if b.toNat < 128 then .ok (false, 0, 1) else hdRest (decide (192 ≤ b.toNat)) (hdLen b) t
theorem hd_cons (b : UInt8) (t : List UInt8) : hdOf (b :: t) = if b.toNat < 128 then .ok (false, 0, 1) else hdRest (decide (192 ≤ b.toNat)) (hdLen b) t := rfl
def baseOf (l : Bool) : Nat := if l = true then 192 else 128
theorem byte_nat {m : Nat} (h : m < 256) : (UInt8.ofNat m).toNat = m := by rw [UInt8.toNat_ofNat']; omega
theorem byteLen3 {n : Nat} (h : n ≤ 65536) : byteLen n ≤ 3 := (byteLen_le n 3).2 (by omega)
theorem byteLen_pos {n : Nat} (h : 55 < n) : 1 ≤ byteLen n := by
  have := byteLen_le n 0
  simp at this
  omega
theorem hd_first (l : Bool) (m : Nat) (hm : m < 64) (t : List UInt8) : hdOf (UInt8.ofNat (baseOf l + m) :: t) = hdRest l m t := by
  cases l with
  | true =>
    have e : (UInt8.ofNat (baseOf true + m)).toNat = 192 + m := byte_nat (show 192 + m < 256 by omega)
    rw [hd_cons]
    unfold hdLen
    rw [e, if_neg (by omega), if_pos (by omega), decide_eq_true (by omega), show 192 + m - 192 = m by omega]
  | false =>
    have e : (UInt8.ofNat (baseOf false + m)).toNat = 128 + m := byte_nat (show 128 + m < 256 by omega)
    rw [hd_cons]
    unfold hdLen
    rw [e, if_neg (by omega), if_neg (by omega), decide_eq_false (by omega), show 128 + m - 128 = m by omega]
theorem hd_head (l : Bool) (n : Nat) (hn : n ≤ 65536) (t : List UInt8) : hdOf (headB n (baseOf l) ++ t) = .ok (l, aheadN n, n) := by
  unfold headB aheadN
  have hb3 := byteLen3 hn
  split
  · rename_i h
    rw [List.cons_append, List.nil_append, hd_first l n (by omega)]
    unfold hdRest
    rw [if_pos h]
  · rename_i h
    have hp := byteLen_pos (by omega : 55 < n)
    have hlen : (bytesOf n ++ t).length = byteLen n + t.length := by rw [List.length_append, bytesOf_len]
    have htake : (bytesOf n ++ t).take (byteLen n) = bytesOf n := by rw [List.take_append_of_le_length (by rw [bytesOf_len]; omega), List.take_of_length_le (by rw [bytesOf_len]; omega)]
    have hhead : (bytesOf n ++ t).head? ≠ some 0 := by
      rw [List.head?_append]
      have h1 := bytesOf_head n
      have h2 := bytesOf_len n
      cases hq : bytesOf n with
      | nil => rw [hq] at h2; simp at h2; omega
      | cons a r => rw [hq] at h1; exact h1
    rw [List.cons_append, Nat.add_assoc, hd_first l (55 + byteLen n) (by omega)]
    unfold hdRest
    rw [show 55 + byteLen n - 55 = byteLen n by omega, if_neg (by omega), if_neg (by omega), if_neg hhead, htake, bytesOf_val, if_neg (by omega)]
/-- A head that is cut off. -/
theorem hd_cut (l : Bool) (n : Nat) (hn : n ≤ 65536) {j : Nat} (hj : j < aheadN n) : hdOf ((headB n (baseOf l)).take j) = .error 7 := by
  have hb3 := byteLen3 hn
  cases j with
  | zero => rfl
  | succ j =>
    unfold aheadN at hj
    split at hj
    · omega
    · rename_i h
      have hlen : ((bytesOf n).take j).length < byteLen n := by rw [List.length_take, bytesOf_len]; omega
      unfold headB
      rw [if_neg h, List.take_succ_cons, Nat.add_assoc, hd_first l (55 + byteLen n) (by omega)]
      unfold hdRest
      rw [show 55 + byteLen n - 55 = byteLen n by omega, if_neg (by omega), if_pos hlen]
/-- A head that is read is the head of what it tells. -/
theorem hd_back {s : List UInt8} {l : Bool} {f n : Nat} (h : hdOf s = .ok (l, f, n)) :
    (f = 0 ∧ l = false ∧ n = 1 ∧ ∃ b t, s = b :: t ∧ b.toNat < 128) ∨ (f = aheadN n ∧ f ≤ s.length ∧ n ≤ 65536 ∧ s.take f = headB n (baseOf l)) := by
  cases s with
  | nil => cases h
  | cons b t =>
    rw [hd_cons] at h
    have hb : b.toNat < 256 := b.toNat_lt
    split at h
    · rename_i h1
      cases h
      exact .inl ⟨rfl, rfl, rfl, b, t, rfl, h1⟩
    · rename_i h1
      refine .inr ?_
      have hbase : b.toNat = baseOf (decide (192 ≤ b.toNat)) + hdLen b := by
        unfold baseOf hdLen
        by_cases h2 : 192 ≤ b.toNat
        · rw [decide_eq_true h2, if_pos rfl, if_pos h2]; omega
        · rw [decide_eq_false h2, if_neg (by simp), if_neg h2]; omega
      have hm64 : hdLen b < 64 := by unfold hdLen; split <;> omega
      generalize decide (192 ≤ b.toNat) = l2 at *
      generalize hdLen b = m at *
      unfold hdRest at h
      split at h
      · rename_i h2
        injection h with h; injection h with e1 h; injection h with e2 e3
        subst e1; subst e2; subst e3
        refine ⟨?_, by simp, by omega, ?_⟩
        · unfold aheadN; rw [if_pos h2]
        · unfold headB
          rw [if_pos h2, ← hbase, UInt8.ofNat_toNat]; rfl
      · rename_i h2
        split at h
        · cases h
        · rename_i h3
          split at h
          · cases h
          · rename_i h4
            split at h
            · cases h
            · rename_i h5
              injection h with h; injection h with e1 h; injection h with e2 e3
              subst e1; subst e2; subst e3
              have hl : (t.take (m - 55)).length = m - 55 := by rw [List.length_take]; omega
              have hh : (t.take (m - 55)).head? ≠ some 0 := by
                intro e
                apply h4
                rw [List.head?_take] at e
                split at e
                · cases e
                · exact e
              obtain ⟨k1, k2⟩ := bytesOf_numOf hh
              rw [hl] at k1
              refine ⟨?_, ?_, by omega, ?_⟩
              · unfold aheadN; rw [if_neg (by omega), k1]
              · rw [List.length_cons]; omega
              · unfold headB
                rw [if_neg (by omega), k1, k2, show baseOf l2 + 55 + (m - 55) = b.toNat by omega, UInt8.ofNat_toNat, Nat.add_comm 1, List.take_succ_cons]
mutual
/-- The item at the front of bytes, beneath so many lists, and how many bytes it has; or the page's error. -/
def parse (d : Nat) (s : List UInt8) : Except Nat (ItemD × Nat) :=
  match hdOf s with
  | .error e => .error e
  | .ok (l, f, n) =>
    if f + n > 65536 then .error 1
    else if s.length < f + n then .error 7
    else if l = false then (if 0 < f ∧ aloneB ((s.drop f).take n) = true then .error 1 else .ok (.mk false ((s.drop f).take n) [], f + n))
    else if 16 ≤ d then .error 1
    else if h : ((s.drop f).take n).length < s.length then
      match itemsP (d + 1) ((s.drop f).take n) with
      | some xs => .ok (.mk true [] xs, f + n)
      | none => .error 1
    else .error 1
termination_by (s.length, 0)
decreasing_by exact Prod.Lex.left _ _ h
def itemsP (d : Nat) (s : List UInt8) : Option (List ItemD) :=
  match s with
  | [] => some []
  | b :: t => match parse d (b :: t) with
    | .error _ => none
    | .ok (x, k) => if h : 0 < k then (itemsP d ((b :: t).drop k)).map (x :: ·) else none
termination_by (s.length, 1)
decreasing_by
  · exact Prod.Lex.right _ (by decide)
  · exact Prod.Lex.left _ _ (by rw [List.length_drop, List.length_cons]; omega)
end
theorem itemsP_nil (d : Nat) : itemsP d [] = some [] := by rw [itemsP]
theorem itemsP_cons {d : Nat} {s : List UInt8} (hs : s ≠ []) : itemsP d s = match parse d s with
    | .error _ => none
    | .ok (x, k) => if 0 < k then (itemsP d (s.drop k)).map (x :: ·) else none := by
  cases s with
  | nil => exact absurd rfl hs
  | cons b t =>
    rw [itemsP]
    cases parse d (b :: t) with
    | error e => rfl
    | ok r => obtain ⟨x, k⟩ := r; simp only [dite_eq_ite]
structure ParseOk (d : Nat) (s : List UInt8) (it : ItemD) (k : Nat) : Prop where
  pos : 1 ≤ k
  le : k ≤ s.length
  may : okI d it = true
  raw : rawOf it = s.take k
  wt : it.wt ≤ 2 * k
theorem take_cut {s : List UInt8} {f n : Nat} : s.take (f + n) = s.take f ++ (s.drop f).take n := by
  rw [List.take_add]
theorem parse_items (n : Nat) : (∀ d s, s.length ≤ n → ∀ it k, parse d s = .ok (it, k) → ParseOk d s it k) ∧ (∀ d s, s.length ≤ n → ∀ xs, itemsP d s = some xs → okIs d xs = true ∧ raws xs = s ∧ wts xs ≤ 2 * s.length) := by
  induction n with
  | zero =>
    refine ⟨fun d s hs it k h => ?_, fun d s hs xs h => ?_⟩
    · obtain rfl : s = [] := List.eq_nil_of_length_eq_zero (by omega)
      rw [parse] at h; cases h
    · obtain rfl : s = [] := List.eq_nil_of_length_eq_zero (by omega)
      rw [itemsP_nil] at h
      cases h
      exact ⟨okIs_nil d, raws_nil, by rw [wts_nil]; omega⟩
  | succ n ih =>
    have hp : ∀ d s, s.length ≤ n + 1 → ∀ it k, parse d s = .ok (it, k) → ParseOk d s it k := by
      intro d s hs it k h
      rw [parse] at h
      split at h
      · cases h
      · rename_i l f m hhd
        split at h
        · cases h
        · rename_i h1
          split at h
          · cases h
          · rename_i h2
            have hlen : ((s.drop f).take m).length = m := by rw [List.length_take, List.length_drop]; omega
            split at h
            · rename_i hl
              subst hl
              split at h
              · cases h
              · rename_i h3
                cases h
                rcases hd_back hhd with ⟨rfl, _, rfl, b, t, rfl, hb⟩ | ⟨hf, hfl, hm, htk⟩
                · have ht : ((b :: t).drop 0).take 1 = [b] := rfl
                  rw [ht]
                  have ha : aloneB [b] = true := by unfold aloneB; exact decide_eq_true hb
                  have hr : rawOf (.mk false [b] []) = [b] := by rw [rawOf_text rfl]; exact if_pos ha
                  refine ⟨by omega, by simp, ?_, hr, ?_⟩
                  · rw [okI_text d rfl, hr]; rfl
                  · rw [wt_eq]; show 1 + 1 + wts [] ≤ _; rw [wts_nil]; omega
                · have hpos := ahead_pos m
                  have ha : ¬ aloneB ((s.drop f).take m) = true := fun e => h3 ⟨by omega, e⟩
                  have hr : rawOf (.mk false ((s.drop f).take m) []) = s.take (f + m) := by
                    rw [rawOf_text rfl]
                    show (if aloneB ((s.drop f).take m) = true then _ else _) = _
                    rw [if_neg ha, take_cut, htk]
                    show headB ((s.drop f).take m).length 128 ++ (s.drop f).take m = _
                    rw [hlen]; rfl
                  refine ⟨by omega, by omega, ?_, hr, ?_⟩
                  · rw [okI_text d rfl, hr, List.length_take]
                    show (([] : List ItemD).isEmpty && _) = true
                    rw [Bool.and_eq_true, decide_eq_true_eq]
                    exact ⟨rfl, by omega⟩
                  · rw [wt_eq]
                    show 1 + ((s.drop f).take m).length + wts [] ≤ _
                    rw [wts_nil, hlen]; omega
            · rename_i hl
              obtain rfl : l = true := by cases l <;> simp_all
              split at h
              · cases h
              · rename_i h3
                split at h
                · rename_i h4
                  split at h
                  · rename_i xs hx
                    cases h
                    rcases hd_back hhd with ⟨_, e, _⟩ | ⟨hf, hfl, hm, htk⟩
                    · cases e
                    · have hpos := ahead_pos m
                      obtain ⟨i1, i2, i3⟩ := ih.2 (d + 1) _ (by omega) xs hx
                      rw [hlen] at i3
                      have hr : rawOf (.mk true [] xs) = s.take (f + m) := by
                        rw [rawOf_list rfl]
                        show headB (raws xs).length 192 ++ raws xs = _
                        rw [i2, hlen, take_cut, htk]; rfl
                      refine ⟨by omega, by omega, ?_, hr, ?_⟩
                      · rw [okI_list d rfl, hr, List.length_take]
                        show (([] : List UInt8).isEmpty && decide (d < 16) && okIs (d + 1) xs && _) = true
                        rw [i1, decide_eq_true (show d < 16 by omega)]
                        exact decide_eq_true (by omega)
                      · rw [wt_eq]
                        show 1 + ([] : List UInt8).length + wts xs ≤ _
                        rw [List.length_nil]; omega
                  · cases h
                · cases h
    refine ⟨hp, fun d s hs xs h => ?_⟩
    rcases Decidable.em (s = []) with e | e
    · subst e
      rw [itemsP_nil] at h
      cases h
      exact ⟨okIs_nil d, raws_nil, by rw [wts_nil]; omega⟩
    · rw [itemsP_cons e] at h
      cases hq : parse d s with
      | error e => rw [hq] at h; cases h
      | ok r =>
        obtain ⟨x, k⟩ := r
        rw [hq] at h
        obtain ⟨p1, p2, p3, p4, p5⟩ := hp d s hs x k hq
        simp only at h
        rw [if_pos (by omega), Option.map_eq_some_iff] at h
        obtain ⟨ys, h1, rfl⟩ := h
        obtain ⟨i1, i2, i3⟩ := ih.2 d (s.drop k) (by rw [List.length_drop]; omega) ys h1
        refine ⟨?_, ?_, ?_⟩
        · rw [okIs_cons, p3, i1]; rfl
        · rw [raws_cons, p4, i2, List.take_append_drop]
        · rw [wts_cons]
          rw [List.length_drop] at i3
          omega
theorem parse_ok {d : Nat} {s : List UInt8} {it : ItemD} {k : Nat} (h : parse d s = .ok (it, k)) : ParseOk d s it k := (parse_items s.length).1 d s (Nat.le_refl _) it k h
theorem itemsP_ok {d : Nat} {s : List UInt8} {xs : List ItemD} (h : itemsP d s = some xs) : okIs d xs = true ∧ raws xs = s ∧ wts xs ≤ 2 * s.length := (parse_items s.length).2 d s (Nat.le_refl _) xs h
theorem rawOf_pos {d : Nat} {it : ItemD} (h : okI d it = true) : 1 ≤ (rawOf it).length := by
  cases hl : it.list with
  | false =>
    rw [rawOf_text hl]
    split
    · rename_i ha; rw [alone_len ha]; omega
    · have := ahead_pos it.text.length
      rw [List.length_append, headB_len]; omega
  | true =>
    have := ahead_pos (raws it.items).length
    rw [rawOf_list hl, List.length_append, headB_len]; omega
theorem items_raw {d : Nat} {xs : List ItemD} (hp : ∀ x ∈ xs, ∀ t, parse d (rawOf x ++ t) = .ok (x, (rawOf x).length)) (h : okIs d xs = true) : itemsP d (raws xs) = some xs := by
  induction xs with
  | nil => rw [raws_nil, itemsP_nil]
  | cons x xs ih =>
    rw [okIs_cons, Bool.and_eq_true] at h
    have h1 := rawOf_pos h.1
    rw [raws_cons, itemsP_cons (fun e => by have e := congrArg List.length e; rw [List.length_append, List.length_nil] at e; omega), hp x (by simp)]
    simp only
    rw [if_pos (by omega), List.drop_left, ih (fun y hy => hp y (List.mem_cons_of_mem _ hy)) h.2]
    rfl
/-- An item's bytes are read as it. -/
theorem parse_raw (it : ItemD) : ∀ d, okI d it = true → ∀ t, parse d (rawOf it ++ t) = .ok (it, (rawOf it).length) := by
  intro d h t
  cases hl : it.list with
  | false =>
    have h0 := h
    rw [okI_text d hl, Bool.and_eq_true, decide_eq_true_eq, List.isEmpty_iff] at h
    obtain ⟨hi, hlen⟩ := h
    have hit : it = .mk false it.text [] := by cases it; cases hl; simp only [ItemD.items] at hi; rw [hi]; rfl
    cases ha : aloneB it.text with
    | true =>
      have hr : rawOf it = it.text := by rw [rawOf_text hl, if_pos ha]
      have h1 := alone_len ha
      obtain ⟨b, eb, hb⟩ : ∃ b, it.text = [b] ∧ b.toNat < 128 := by
        match hq : it.text, h1 with
        | [b], _ => rw [hq] at ha; unfold aloneB at ha; exact ⟨b, rfl, by simpa using ha⟩
      rw [hr, eb, parse]
      have hh : hdOf ([b] ++ t) = .ok (false, 0, 1) := by rw [List.cons_append, hd_cons, if_pos hb]
      rw [hh]
      simp only
      rw [if_neg (by omega), if_neg (by simp), if_pos trivial, if_neg (by omega), hit, eb]
      rfl
    | false =>
      have hr : rawOf it = headB it.text.length 128 ++ it.text := by rw [rawOf_text hl, if_neg (by rw [ha]; simp)]
      rw [hr, List.length_append, headB_len] at hlen
      have hpos := ahead_pos it.text.length
      rw [hr, parse, List.append_assoc]
      have hh := hd_head false it.text.length (by omega) (it.text ++ t)
      rw [show baseOf false = 128 from rfl] at hh
      rw [hh]
      simp only
      have hd : ((headB it.text.length 128 ++ (it.text ++ t)).drop (aheadN it.text.length)).take it.text.length = it.text := by
        rw [← headB_len it.text.length 128, List.drop_left, List.take_left]
      rw [hd, if_neg (by omega), if_neg (by rw [List.length_append, List.length_append, headB_len]; omega), if_pos trivial, if_neg (by rw [ha]; simp), List.length_append, headB_len]
      conv => rhs; rw [hit]
      rfl
  | true =>
    have h0 := h
    rw [okI_list d hl] at h
    simp only [Bool.and_eq_true, decide_eq_true_eq, List.isEmpty_iff] at h
    obtain ⟨⟨⟨ht, hd⟩, hall⟩, hlen⟩ := h
    have hit : it = .mk true [] it.items := by cases it; cases hl; simp only [ItemD.text] at ht; rw [ht]; rfl
    have hr : rawOf it = headB (raws it.items).length 192 ++ raws it.items := rawOf_list hl
    rw [hr, List.length_append, headB_len] at hlen
    have hpos := ahead_pos (raws it.items).length
    have hi := items_raw (fun x hx t => parse_raw x (d + 1) (okIs_mem hall x hx) t) hall
    rw [hr, parse, List.append_assoc]
    have hh := hd_head true (raws it.items).length (by omega) (raws it.items ++ t)
    rw [show baseOf true = 192 from rfl] at hh
    rw [hh]
    simp only
    have hdd : ((headB (raws it.items).length 192 ++ (raws it.items ++ t)).drop (aheadN (raws it.items).length)).take (raws it.items).length = raws it.items := by
      rw [← headB_len (raws it.items).length 192, List.drop_left, List.take_left]
    rw [hdd, hi, if_neg (by omega), if_neg (by rw [List.length_append, List.length_append, headB_len]; omega), if_neg (by simp), if_neg (by omega), dif_pos (by rw [List.length_append, List.length_append, headB_len]; omega), List.length_append, headB_len]
    conv => rhs; rw [hit]
    rfl
termination_by SizeOf.sizeOf it
decreasing_by exact item_lt hx
/-- An item's bytes, cut off. -/
theorem parse_cut (it : ItemD) (h : okI 0 it = true) {j : Nat} (hj : j < (rawOf it).length) : parse 0 ((rawOf it).take j) = .error 7 := by
  have main : ∀ (l : Bool) (body : List UInt8), rawOf it = headB body.length (baseOf l) ++ body → (rawOf it).length ≤ 65536 → parse 0 ((rawOf it).take j) = .error 7 := by
    intro l body hr hlen
    have hlen2 : (rawOf it).length = aheadN body.length + body.length := by rw [hr, List.length_append, headB_len]
    rcases Decidable.em (j < aheadN body.length) with hc | hc
    · have e : (rawOf it).take j = (headB body.length (baseOf l)).take j := by
        rw [hr, List.take_append_of_le_length (by rw [headB_len]; omega)]
      rw [e, parse, hd_cut l body.length (by omega) hc]
    · have e : (rawOf it).take j = headB body.length (baseOf l) ++ body.take (j - aheadN body.length) := by
        rw [hr, List.take_append, List.take_of_length_le (by rw [headB_len]; omega), headB_len]
      have hl2 : ((rawOf it).take j).length = j := by rw [List.length_take]; omega
      rw [parse]
      have hh := hd_head l body.length (by omega) (body.take (j - aheadN body.length))
      rw [← e] at hh
      rw [hh]
      simp only
      rw [if_neg (by omega), if_pos (by omega)]
  cases hl : it.list with
  | false =>
    rw [okI_text 0 hl, Bool.and_eq_true, decide_eq_true_eq] at h
    cases ha : aloneB it.text with
    | true =>
      have hr : rawOf it = it.text := by rw [rawOf_text hl, if_pos ha]
      rw [hr, alone_len ha] at hj
      obtain rfl : j = 0 := by omega
      rw [List.take_zero, parse]; rfl
    | false => exact main false it.text (by rw [rawOf_text hl, if_neg (by rw [ha]; simp)]; rfl) h.2
  | true =>
    rw [okI_list 0 hl] at h
    simp only [Bool.and_eq_true, decide_eq_true_eq] at h
    exact main true (raws it.items) (rawOf_list hl) h.2
end Go.Proofs.Ytmngjlgeojbghaa.VA
end
section
namespace Go.Proofs.Ytmngjlgeojbghaa.VA
set_option maxRecDepth 10000
set_option maxHeartbeats 4000000

def limN (n i : Nat) : Nat := n / 2 ^ (64 * i) % 18446744073709551616
theorem lim_limN (n i : Nat) : lim n i = (limN n i : Int) := rfl
theorem limN_take (m b i j : Nat) (hm : m < 256 ^ i) (hb : b < 256) : limN (m + b * 256 ^ i) j = if j = i / 8 then limN m j ||| (b * 2 ^ (i % 8 * 8)) else limN m j := by
  have e256 : ∀ k, (256 : Nat) ^ k = 2 ^ (8 * k) := fun k => by rw [show (256 : Nat) = 2 ^ 8 by decide, ← Nat.pow_mul]
  have hM : (18446744073709551616 : Nat) = 2 ^ 64 := by decide
  unfold limN
  split
  · rename_i e
    subst e
    have e1 : (256 : Nat) ^ i = 2 ^ (64 * (i / 8)) * 2 ^ (i % 8 * 8) := by
      rw [e256, ← Nat.pow_add]; congr 1; omega
    have hB : 2 ^ (i % 8 * 8) * 256 ≤ 2 ^ 64 := by
      rw [show (256 : Nat) = 2 ^ 8 by decide, ← Nat.pow_add]
      exact Nat.pow_le_pow_right (by decide) (by omega)
    rw [e1] at hm ⊢
    generalize 2 ^ (64 * (i / 8)) = A at *
    have hA : 0 < A := by
      rcases Nat.eq_zero_or_pos A with h | h
      · subst h; simp at hm
      · exact h
    have hq : m / A < 2 ^ (i % 8 * 8) := Nat.div_lt_of_lt_mul hm
    rw [show b * (A * 2 ^ (i % 8 * 8)) = A * (2 ^ (i % 8 * 8) * b) by rw [Nat.mul_comm b, Nat.mul_assoc], Nat.add_mul_div_left _ _ hA]
    have hs : 2 ^ (i % 8 * 8) * b + m / A < 2 ^ 64 := by
      have : 2 ^ (i % 8 * 8) * (b + 1) ≤ 2 ^ (i % 8 * 8) * 256 := Nat.mul_le_mul_left _ hb
      rw [Nat.mul_add, Nat.mul_one] at this
      omega
    have hs2 : m / A + 2 ^ (i % 8 * 8) * b < 2 ^ 64 := by rw [Nat.add_comm]; exact hs
    have hq2 : m / A < 2 ^ 64 := by
      generalize 2 ^ (i % 8 * 8) = X at *
      omega
    rw [hM, Nat.mod_eq_of_lt hs2, Nat.mod_eq_of_lt hq2, Nat.add_comm, Nat.two_pow_add_eq_or_of_lt hq, Nat.or_comm, Nat.mul_comm b]
  · rename_i e
    rcases Nat.lt_or_gt_of_ne e with h | h
    · have e1 : (256 : Nat) ^ i = 2 ^ (64 * j) * (2 ^ 64 * 2 ^ (8 * i - 64 * j - 64)) := by
        rw [e256, ← Nat.pow_add, ← Nat.pow_add]; congr 1; omega
      rw [e1, show b * (2 ^ (64 * j) * (2 ^ 64 * 2 ^ (8 * i - 64 * j - 64))) = 2 ^ (64 * j) * (2 ^ 64 * (2 ^ (8 * i - 64 * j - 64) * b)) by
        rw [Nat.mul_comm b, Nat.mul_assoc, Nat.mul_assoc], Nat.add_mul_div_left _ _ (Nat.two_pow_pos _), hM, Nat.add_mul_mod_self_left]
    · have h1 : (256 : Nat) ^ (i + 1) ≤ 2 ^ (64 * j) := by
        rw [e256]; exact Nat.pow_le_pow_right (by decide) (by omega)
      rw [Nat.pow_succ] at h1
      have h2 : (b + 1) * 256 ^ i ≤ 256 * 256 ^ i := Nat.mul_le_mul_right _ hb
      rw [Nat.add_mul, Nat.one_mul] at h2
      rw [Nat.div_eq_of_lt (by omega), Nat.div_eq_of_lt (by omega)]
theorem limN_lt (n i : Nat) : limN n i < 18446744073709551616 := Nat.mod_lt _ (by decide)
theorem or_natU {x y : Nat} (hx : x < 18446744073709551616) (hy : y < 18446744073709551616) : IntKind.u64.wrap (BitVec.ofInt 64 (x : Int) ||| BitVec.ofInt 64 (y : Int)).toNat = ((x ||| y : Nat) : Int) := by
  rw [ofInt_nat, ofInt_nat, BitVec.toNat_or, BitVec.toNat_ofNat, BitVec.toNat_ofNat, Nat.mod_eq_of_lt hx, Nat.mod_eq_of_lt hy]
  have : x ||| y < 2 ^ 64 := Nat.or_lt_two_pow hx hy
  exact wu64 (by omega) (by omega)
theorem or_nat2 {x y : Nat} (hx : x < 18446744073709551616) (hy : y < 18446744073709551616) : IntKind.u64.wrap (@BitVec.toNat 64 (@HOr.hOr (BitVec 64) (BitVec 64) (BitVec 64) (@instHOrOfOrOp (BitVec IntKind.u64.bits) (@BitVec.instOrOp IntKind.u64.bits)) (BitVec.ofInt 64 (x : Int)) (BitVec.ofInt 64 (y : Int)))) = ((x ||| y : Nat) : Int) := or_natU hx hy
def limbL (n : Nat) : List AV := [.int .u64 (lim n 0), .int .u64 (lim n 1), .int .u64 (lim n 2), .int .u64 (lim n 3)]
theorem limbL_get (n j : Nat) (h : j < 4) : (limbL n)[j]? = some (.int .u64 (limN n j)) := limb_at n j h
theorem limbL_set (m b i : Nat) (hm : m < 256 ^ i) (hb : b < 256) (hi : i < 32) : (limbL m).set (i / 8) (.int .u64 ((limN m (i / 8) ||| (b * 2 ^ (i % 8 * 8)) : Nat) : Int)) = limbL (m + b * 256 ^ i) := by
  have h := fun j => limN_take m b i j hm hb
  unfold limbL
  rw [lim_limN (m + _) 0, lim_limN (m + _) 1, lim_limN (m + _) 2, lim_limN (m + _) 3, h 0, h 1, h 2, h 3]
  obtain e | e | e | e : i / 8 = 0 ∨ i / 8 = 1 ∨ i / 8 = 2 ∨ i / 8 = 3 := by omega
  all_goals rw [e]; rfl
theorem limbL_zero : limbL 0 = [.int .u64 0, .int .u64 0, .int .u64 0, .int .u64 0] := by unfold limbL; simp only [lim, Nat.zero_div, Nat.zero_mod]; rfl
theorem limbL_len (n : Nat) : (limbL n).length = 4 := rfl
theorem limbL_put (m b i : Nat) (hm : m < 256 ^ i) (hb : b < 256) (hi : i < 32) :
    (limbL m).take (i / 8) ++ [.int .u64 ((limN m (i / 8) ||| (b * 2 ^ (i % 8 * 8)) : Nat) : Int)] ++ (limbL m).drop (i / 8 + 1) = limbL (m + b * 256 ^ i) := by
  rw [← limbL_set m b i hm hb hi, List.set_eq_take_append_cons_drop, if_pos (by rw [limbL_len]; omega), List.append_assoc]; rfl
theorem shl_byte {b i : Nat} (hb : b < 256) : b * 2 ^ (i % 8 * 8) < 18446744073709551616 := by
  have h1 : (b + 1) * 2 ^ (i % 8 * 8) ≤ 256 * 2 ^ (i % 8 * 8) := Nat.mul_le_mul_right _ hb
  have h2 : 256 * 2 ^ (i % 8 * 8) ≤ 2 ^ 64 := by
    rw [show (256 : Nat) = 2 ^ 8 by decide, ← Nat.pow_add]
    exact Nat.pow_le_pow_right (by decide) (by omega)
  rw [Nat.add_mul, Nat.one_mul] at h1
  have h3 : 0 < 2 ^ (i % 8 * 8) := Nat.two_pow_pos _
  generalize 2 ^ (i % 8 * 8) = X at *
  generalize b * X = Y at *
  omega
theorem shl_nat {b i : Nat} (hb : b < 256) : IntKind.u64.wrap ((b : Int) * 2 ^ (min (i % 8 * 8) 64)) = ((b * 2 ^ (i % 8 * 8) : Nat) : Int) := by
  rw [Nat.min_eq_left (by omega)]
  have h := shl_byte (i := i) hb
  have e : (b : Int) * 2 ^ (i % 8 * 8) = ((b * 2 ^ (i % 8 * 8) : Nat) : Int) := by push_cast; rfl
  rw [e]
  exact wu64 (by omega) (by omega)
def takeU (s : List UInt8) : Nat × Bool := if s.length > 32 ∨ s.head? = some 0 then (0, false) else (numOf s, true)
theorem u_zero : u 0 = .agg [.int .u64 (0 : Int), .int .u64 (0 : Int), .int .u64 (0 : Int), .int .u64 (0 : Int)] := u_small 0 (by decide)
theorem numOf_small {s : List UInt8} (h : s.length ≤ 32) : numOf s < U := by
  have h1 := numOf_lt s
  have : (256 : Nat) ^ s.length ≤ 256 ^ 32 := Nat.pow_le_pow_right (by decide) h
  have : (256 : Nat) ^ 32 = U := by unfold U; decide
  omega
theorem takeU_lt (s : List UInt8) : (takeU s).1 < U := by
  unfold takeU
  split
  · unfold U; decide
  · rename_i h
    exact numOf_small (by omega)
theorem u8z : (((0 : UInt8).toNat : Int) == 0) = true := by decide
theorem c_u256_Take (s : List UInt8) (hs : s.length ≤ 4294967296) : Contract Try.prog 31 [.str s] (.tup [u (takeU s).1, .int .i64 (if (takeU s).2 = true then 0 else 1)]) := by
  refine contract_of (C := cf 44 [0, 2, 3, 4, 5, 17, 20, 21, 22] (fun _ => [])) (cf_ok _ _ _) (fn := Try.f31) Try.func31 (by kernel_rfl) rfl (by kernel_rfl) (by simp [cf]) (plain1 (.str _)) (by decide) (cellsOk (by kernel_rfl)) ?_
  simp only [go_sem, ↓reduceIte, Nat.reduceLT, Nat.reduceLeDiff, Nat.reduceAdd, Nat.reduceSub, Nat.reduceMul, Nat.reduceEqDiff, Nat.reduceBEq, Nat.reduceMod, Nat.reduceDiv, Int.reduceToNat, reduceCtorEq, Int.reduceLT, Int.reduceLE, Int.reduceGT, Int.reduceGE, Int.reduceAdd, Int.reduceSub, Int.reduceMul, Int.reduceNeg, Int.reduceEq, Int.reduceNe, Int.reduceBNe, Int.reduceBEq, Int.reduceDiv]
  have bad : s.length > 32 ∨ s.head? = some 0 → takeU s = (0, false) := fun h => by unfold takeU; rw [if_pos h]
  have good : ¬ (s.length > 32 ∨ s.head? = some 0) → takeU s = (numOf s, true) := fun h => by unfold takeU; rw [if_neg h]
  rcases Decidable.em (s.length > 32) with hl | hl
  · rw [decide_eq_true (show (s.length : Int) > 32 by omega), bad (.inl hl), u_zero]
    simp only [go_sem, ↓reduceIte, Nat.reduceLT, Nat.reduceLeDiff, Nat.reduceAdd, Nat.reduceSub, Nat.reduceMul, Nat.reduceEqDiff, Nat.reduceBEq, Nat.reduceMod, Nat.reduceDiv, Int.reduceToNat, reduceCtorEq, Int.reduceLT, Int.reduceLE, Int.reduceGT, Int.reduceGE, Int.reduceAdd, Int.reduceSub, Int.reduceMul, Int.reduceNeg, Int.reduceEq, Int.reduceNe, Int.reduceBNe, Int.reduceBEq, Int.reduceDiv]
    refine finTup ?_
    show resOf _ _ [.cell 2 67, .tmp 3] = _
    simp only [go_sem, ↓reduceIte, Nat.reduceLT, Nat.reduceLeDiff, Nat.reduceAdd, Nat.reduceSub, Nat.reduceMul, Nat.reduceEqDiff, Nat.reduceBEq, Nat.reduceMod, Nat.reduceDiv, Int.reduceToNat, reduceCtorEq, Int.reduceLT, Int.reduceLE, Int.reduceGT, Int.reduceGE, Int.reduceAdd, Int.reduceSub, Int.reduceMul, Int.reduceNeg, Int.reduceEq, Int.reduceNe, Int.reduceBNe, Int.reduceBEq, Int.reduceDiv]
  · rw [decide_eq_false (show ¬ (s.length : Int) > 32 by omega)]
    rcases Decidable.em (s.head? = some 0) with hz | hz
    · rw [bad (.inr hz), u_zero]
      have h0 : s[0]? = some 0 := by rw [← List.head?_eq_getElem?]; exact hz
      have hnil : (s == ([] : List UInt8)) = false := by cases s <;> first | rfl | cases hz
      have hpos : (0 : Int) < s.length := by cases s <;> first | (rw [List.length_cons]; omega) | cases hz
      simp only [go_sem, ↓reduceIte, Nat.reduceLT, Nat.reduceLeDiff, Nat.reduceAdd, Nat.reduceSub, Nat.reduceMul, Nat.reduceEqDiff, Nat.reduceBEq, Nat.reduceMod, Nat.reduceDiv, Int.reduceToNat, reduceCtorEq, Int.reduceLT, Int.reduceLE, Int.reduceGT, Int.reduceGE, Int.reduceAdd, Int.reduceSub, Int.reduceMul, Int.reduceNeg, Int.reduceEq, Int.reduceNe, Int.reduceBNe, Int.reduceBEq, Int.reduceDiv, hnil, h0, hpos, u8z]
      refine finTup ?_
      show resOf _ _ [.cell 2 67, .tmp 3] = _
      simp only [go_sem, ↓reduceIte, Nat.reduceLT, Nat.reduceLeDiff, Nat.reduceAdd, Nat.reduceSub, Nat.reduceMul, Nat.reduceEqDiff, Nat.reduceBEq, Nat.reduceMod, Nat.reduceDiv, Int.reduceToNat, reduceCtorEq, Int.reduceLT, Int.reduceLE, Int.reduceGT, Int.reduceGE, Int.reduceAdd, Int.reduceSub, Int.reduceMul, Int.reduceNeg, Int.reduceEq, Int.reduceNe, Int.reduceBNe, Int.reduceBEq, Int.reduceDiv]
    · rw [good (by simp [hl, hz])]
      have w0 : IntKind.i64.wrap ((s.length : Int) - 1) = (s.length : Int) - 1 := wi64 (by omega) (by omega)
      cases hnil : (s == ([] : List UInt8))
      case' true => simp only [go_sem, ↓reduceIte, Nat.reduceLT, Nat.reduceLeDiff, Nat.reduceAdd, Nat.reduceSub, Nat.reduceMul, Nat.reduceEqDiff, Nat.reduceBEq, Nat.reduceMod, Nat.reduceDiv, Int.reduceToNat, reduceCtorEq, Int.reduceLT, Int.reduceLE, Int.reduceGT, Int.reduceGE, Int.reduceAdd, Int.reduceSub, Int.reduceMul, Int.reduceNeg, Int.reduceEq, Int.reduceNe, Int.reduceBNe, Int.reduceBEq, Int.reduceDiv, hnil]
      case' false =>
        obtain ⟨b, h0, hbz, hpos⟩ : ∃ b, s[0]? = some b ∧ ((b.toNat : Int) == 0) = false ∧ (0 : Int) < s.length := by
          cases s with
          | nil => cases hnil
          | cons b t => exact ⟨b, rfl, by
              have : b ≠ 0 := fun e => hz (by rw [e]; rfl)
              have : b.toNat ≠ 0 := fun e => this (UInt8.toNat_inj.1 (by rw [e]; rfl))
              simpa using this, by rw [List.length_cons]; omega⟩
        simp only [go_sem, ↓reduceIte, Nat.reduceLT, Nat.reduceLeDiff, Nat.reduceAdd, Nat.reduceSub, Nat.reduceMul, Nat.reduceEqDiff, Nat.reduceBEq, Nat.reduceMod, Nat.reduceDiv, Int.reduceToNat, reduceCtorEq, Int.reduceLT, Int.reduceLE, Int.reduceGT, Int.reduceGE, Int.reduceAdd, Int.reduceSub, Int.reduceMul, Int.reduceNeg, Int.reduceEq, Int.reduceNe, Int.reduceBNe, Int.reduceBEq, Int.reduceDiv, hnil, h0, hpos, hbz]
      all_goals
        refine ex_iter [0, 2, 4, 20, 21] (fun i : Nat => ⟨[(0, .str s), (2, .var 2 0), (4, .var 4 0), (20, .int .i64 s.length), (21, .int .i64 i)], [(2, limbL 0), (4, limbL (numOf (s.drop (s.length - i))))], []⟩) (fun i => i ≤ s.length) (fun i => s.length - i) 0 ?_ ?_ ?_
        · simp only [ASt.keep, consIf, keepL, keepV, AV.isBot, List.contains_cons, List.contains_nil, Nat.reduceBEq, Bool.or_false, Bool.false_or, Bool.or_true, Bool.true_or, beq_self_eq_true, Bool.false_eq_true, ↓reduceIte, if_false, if_true]
          rw [Nat.sub_zero, List.drop_length, numOf_nil, limbL_zero]
          rfl
        · exact Nat.zero_le _
        · intro r i hi next
          simp only [go_sem, ↓reduceIte, Nat.reduceLT, Nat.reduceLeDiff, Nat.reduceAdd, Nat.reduceSub, Nat.reduceMul, Nat.reduceEqDiff, Nat.reduceBEq, Nat.reduceMod, Nat.reduceDiv, Int.reduceToNat, reduceCtorEq, Int.reduceLT, Int.reduceLE, Int.reduceGT, Int.reduceGE, Int.reduceAdd, Int.reduceSub, Int.reduceMul, Int.reduceNeg, Int.reduceEq, Int.reduceNe, Int.reduceBNe, Int.reduceBEq, Int.reduceDiv]
          refine ex_br (fun h => ?_) (fun h => ?_)
          · have hlt : i < s.length := by simpa using h
            obtain ⟨b, eb⟩ : ∃ b, s[s.length - 1 - i]? = some b := ⟨_, List.getElem?_eq_getElem (by omega)⟩
            have wq : (i : Int).tdiv 8 = ((i / 8 : Nat) : Int) := rfl
            have wr : (i : Int).tmod 8 = ((i % 8 : Nat) : Int) := rfl
            have wq2 := wi64n (i / 8) (by omega)
            have wm : IntKind.i64.wrap (((i % 8 : Nat) : Int) * 8) = ((i % 8 * 8 : Nat) : Int) := by rw [wi64 (by omega) (by omega)]; omega
            have ws2 : IntKind.i64.wrap ((s.length : Int) - 1 - (i : Int)) = ((s.length - 1 - i : Nat) : Int) := by rw [wi64 (by omega) (by omega)]; omega
            have hbl : b.toNat < 256 := b.toNat_lt
            simp only [go_sem, ↓reduceIte, Nat.reduceLT, Nat.reduceLeDiff, Nat.reduceAdd, Nat.reduceSub, Nat.reduceMul, Nat.reduceEqDiff, Nat.reduceBEq, Nat.reduceMod, Nat.reduceDiv, Int.reduceToNat, reduceCtorEq, Int.reduceLT, Int.reduceLE, Int.reduceGT, Int.reduceGE, Int.reduceAdd, Int.reduceSub, Int.reduceMul, Int.reduceNeg, Int.reduceEq, Int.reduceNe, Int.reduceBNe, Int.reduceBEq, Int.reduceDiv]
            refine ex_draw [18] [] (.quiet 0 (.quiet 1 (.quiet 2 (.quiet 3 (.quiet 4 (.quiet 5 (.quiet 6 (.quiet 7 (.quiet 8 (.quiet 9 (.quiet 10 (.quiet 11 (.quiet 12 (.quiet 13 (.quiet 14 (.quiet 15 (.quiet 16 (.quiet 17 (.unlock (.one 18 (.fin))))))))))))))))))))) (by kernel_rfl) ?_
            simp only [go_sem, ↓reduceIte, Nat.reduceLT, Nat.reduceLeDiff, Nat.reduceAdd, Nat.reduceSub, Nat.reduceMul, Nat.reduceEqDiff, Nat.reduceBEq, Nat.reduceMod, Nat.reduceDiv, Int.reduceToNat, reduceCtorEq, Int.reduceLT, Int.reduceLE, Int.reduceGT, Int.reduceGE, Int.reduceAdd, Int.reduceSub, Int.reduceMul, Int.reduceNeg, Int.reduceEq, Int.reduceNe, Int.reduceBNe, Int.reduceBEq, Int.reduceDiv, wq, wr, wq2, wm, w0, ws2, Int.toNat_natCast, eb, limbL_get _ _ (show i / 8 < 4 by omega)]
            repeat with_reducible refine And.intro (by first | omega | (simp only [List.length_cons, List.length_append, List.length_nil, List.length_map, List.length_take, List.length_drop, List.length_set]; omega)) ?_
            have wb : IntKind.u64.wrap (b.toNat : Int) = (b.toNat : Int) := wu64 (by omega) (by omega)
            have hm : numOf (s.drop (s.length - i)) < 256 ^ i := by
              have := numOf_lt (s.drop (s.length - i))
              rw [List.length_drop, show s.length - (s.length - i) = i by omega] at this
              exact this
            have hd : numOf (s.drop (s.length - i)) + b.toNat * 256 ^ i = numOf (s.drop (s.length - (i + 1))) := by
              have := numOf_drop eb
              rw [show s.length - 1 - (s.length - 1 - i) = i by omega, show s.length - 1 - i + 1 = s.length - i by omega] at this
              rw [show s.length - (i + 1) = s.length - 1 - i by omega, this, Nat.add_comm]
            have hdec : decide (i / 8 ≤ 3) = true := decide_eq_true (by omega)
            simp only [go_sem, ↓reduceIte, Nat.reduceLT, Nat.reduceLeDiff, Nat.reduceAdd, Nat.reduceSub, Nat.reduceMul, Nat.reduceEqDiff, Nat.reduceBEq, Nat.reduceMod, Nat.reduceDiv, Int.reduceToNat, reduceCtorEq, Int.reduceLT, Int.reduceLE, Int.reduceGT, Int.reduceGE, Int.reduceAdd, Int.reduceSub, Int.reduceMul, Int.reduceNeg, Int.reduceEq, Int.reduceNe, Int.reduceBNe, Int.reduceBEq, Int.reduceDiv, limbL_len, hdec, wb, shl_nat hbl, or_nat2 (limN_lt _ _) (shl_byte hbl), limbL_put _ _ _ hm hbl (show i < 32 by omega), hd]
            refine next (i + 1) _ (by omega) (by omega) ?_
            simp only [ASt.keep, consIf, keepL, keepV, AV.isBot, List.contains_cons, List.contains_nil, Nat.reduceBEq, Bool.or_false, Bool.false_or, Bool.or_true, Bool.true_or, beq_self_eq_true, Bool.false_eq_true, ↓reduceIte, if_false, if_true]
            rw [wi64_nat i (by omega)]
          · have hge : i = s.length := by simp at h; omega
            subst hge
            rw [Nat.sub_self, List.drop_zero]
            simp only [go_sem, ↓reduceIte, Nat.reduceLT, Nat.reduceLeDiff, Nat.reduceAdd, Nat.reduceSub, Nat.reduceMul, Nat.reduceEqDiff, Nat.reduceBEq, Nat.reduceMod, Nat.reduceDiv, Int.reduceToNat, reduceCtorEq, Int.reduceLT, Int.reduceLE, Int.reduceGT, Int.reduceGE, Int.reduceAdd, Int.reduceSub, Int.reduceMul, Int.reduceNeg, Int.reduceEq, Int.reduceNe, Int.reduceBNe, Int.reduceBEq, Int.reduceDiv, limbL]
            refine finTup ?_
            show resOf _ _ [.cell 2 67, .tmp 3] = _
            simp only [go_sem, ↓reduceIte, Nat.reduceLT, Nat.reduceLeDiff, Nat.reduceAdd, Nat.reduceSub, Nat.reduceMul, Nat.reduceEqDiff, Nat.reduceBEq, Nat.reduceMod, Nat.reduceDiv, Int.reduceToNat, reduceCtorEq, Int.reduceLT, Int.reduceLE, Int.reduceGT, Int.reduceGE, Int.reduceAdd, Int.reduceSub, Int.reduceMul, Int.reduceNeg, Int.reduceEq, Int.reduceNe, Int.reduceBNe, Int.reduceBEq, Int.reduceDiv, u]
end Go.Proofs.Ytmngjlgeojbghaa.VA
end
section
namespace Go.Proofs.Ytmngjlgeojbghaa.VA
set_option maxRecDepth 10000
set_option maxHeartbeats 1000000

def hdAv (l : Bool) (f n : Nat) : AV := .agg [.bool l, .int .i64 f, .int .i64 n]
def hdRes : Except Nat (Bool × Nat × Nat) → AV
  | .error e => .tup [.agg [.bool false, .int .i64 (0 : Int), .int .i64 (0 : Int)], .int .i64 e]
  | .ok (l, f, n) => .tup [.agg [.bool l, .int .i64 f, .int .i64 n], .int .i64 (0 : Int)]
theorem num8 {s : List UInt8} (h : s.length ≤ 8) : numOf s < 18446744073709551616 := by
  have h1 := numOf_lt s
  have : (256 : Nat) ^ s.length ≤ 256 ^ 8 := Nat.pow_le_pow_right (by decide) h
  omega
theorem lt_U2 {n : Nat} (h : n < 18446744073709551616) : n < U := by unfold U; omega
theorem c_item_read (s : List UInt8) (hs : s.length ≤ 4294967296) : Contract Try.prog 26 [.str s] (hdRes (hdOf s)) := by
  cases s with
  | nil =>
    refine contract_of (C := cf 73 [0, 2, 3, 4, 5, 6, 7, 9, 19, 23, 31, 44, 66] (fun _ => [])) (cf_ok _ _ _) (fn := Try.f26) Try.func26 (by kernel_rfl) rfl (by kernel_rfl) (by simp [cf]) (plain1 (.str _)) (by decide) (cellsOk (by kernel_rfl)) ?_
    simp only [go_sem, ↓reduceIte, Nat.reduceLT, Nat.reduceLeDiff, Nat.reduceAdd, Nat.reduceSub, Nat.reduceMul, Nat.reduceEqDiff, Nat.reduceBEq, Nat.reduceMod, Nat.reduceDiv, Int.reduceToNat, reduceCtorEq, Int.reduceLT, Int.reduceLE, Int.reduceGT, Int.reduceGE, Int.reduceAdd, Int.reduceSub, Int.reduceMul, Int.reduceNeg, Int.reduceEq, Int.reduceNe, Int.reduceBNe, Int.reduceBEq, Int.reduceDiv]
    refine finTup ?_
    show resOf _ _ [.cell 2 58, .tmp 3] = _
    simp only [go_sem, ↓reduceIte, Nat.reduceLT, Nat.reduceLeDiff, Nat.reduceAdd, Nat.reduceSub, Nat.reduceMul, Nat.reduceEqDiff, Nat.reduceBEq, Nat.reduceMod, Nat.reduceDiv, Int.reduceToNat, reduceCtorEq, Int.reduceLT, Int.reduceLE, Int.reduceGT, Int.reduceGE, Int.reduceAdd, Int.reduceSub, Int.reduceMul, Int.reduceNeg, Int.reduceEq, Int.reduceNe, Int.reduceBNe, Int.reduceBEq, Int.reduceDiv]
    rfl
  | cons b t =>
    rw [List.length_cons] at hs
    have hb : b.toNat < 256 := b.toNat_lt
    have wb : IntKind.i64.wrap (b.toNat : Int) = (b.toNat : Int) := wi64n _ (by omega)
    have hpos : (0 : Int) < ((t.length + 1 : Nat) : Int) := by omega
    rw [hd_cons]
    rcases Decidable.em (b.toNat < 128) with h1 | h1
    · rw [if_pos h1]
      refine contract_of (C := cf 73 [0, 2, 3, 4, 5, 6, 7, 9, 19, 23, 31, 44, 66] (fun _ => [])) (cf_ok _ _ _) (fn := Try.f26) Try.func26 (by kernel_rfl) rfl (by kernel_rfl) (by simp [cf]) (plain1 (.str _)) (by decide) (cellsOk (by kernel_rfl)) ?_
      have e1 : decide ((b.toNat : Int) < 128) = true := decide_eq_true (by omega)
      have e0 : ((b :: t) == ([] : List UInt8)) = false := rfl
      simp only [go_sem, ↓reduceIte, Nat.reduceLT, Nat.reduceLeDiff, Nat.reduceAdd, Nat.reduceSub, Nat.reduceMul, Nat.reduceEqDiff, Nat.reduceBEq, Nat.reduceMod, Nat.reduceDiv, Int.reduceToNat, reduceCtorEq, Int.reduceLT, Int.reduceLE, Int.reduceGT, Int.reduceGE, Int.reduceAdd, Int.reduceSub, Int.reduceMul, Int.reduceNeg, Int.reduceEq, Int.reduceNe, Int.reduceBNe, Int.reduceBEq, Int.reduceDiv, e0, e1, wb, hpos]
      refine finTup ?_
      show resOf _ _ [.cell 2 58, .tmp 3] = _
      simp only [go_sem, ↓reduceIte, Nat.reduceLT, Nat.reduceLeDiff, Nat.reduceAdd, Nat.reduceSub, Nat.reduceMul, Nat.reduceEqDiff, Nat.reduceBEq, Nat.reduceMod, Nat.reduceDiv, Int.reduceToNat, reduceCtorEq, Int.reduceLT, Int.reduceLE, Int.reduceGT, Int.reduceGE, Int.reduceAdd, Int.reduceSub, Int.reduceMul, Int.reduceNeg, Int.reduceEq, Int.reduceNe, Int.reduceBNe, Int.reduceBEq, Int.reduceDiv, hdRes]
      rfl
    · rw [if_neg h1]
      have main : ∀ (l : Bool) (m : Nat), decide (192 ≤ b.toNat) = l → hdLen b = m → Contract Try.prog 26 [.str (b :: t)] (hdRes (hdRest l m t)) := by
        intro l m hl hm
        have hm64 : m < 64 := by rw [← hm]; unfold hdLen; split <;> omega
        have hk : 1 + (m - 55) - 1 = m - 55 := by omega
        have hql : (t.take (m - 55)).length ≤ 8 := by rw [List.length_take]; omega
        have hu := c_u256_Take (t.take (m - 55)) (by omega)
        have hv := num8 hql
        have hc := c_u256_Cmp (numOf (t.take (m - 55))) 65536 (lt_U2 hv) (lt_U2 (by omega))
        have e5 : decide (cmpOf (numOf (t.take (m - 55))) 65536 > 0) = decide (numOf (t.take (m - 55)) > 65536) := by
          unfold cmpOf
          refine decide_congr ?_
          split
          · omega
          · split <;> omega
        rw [u_small _ hv, u_small 65536 (by omega)] at hc
        have e0 : ((b :: t) == ([] : List UInt8)) = false := rfl
        have e1 : decide ((b.toNat : Int) < 128) = false := decide_eq_false (by omega)
        have e2 : decide ((b.toNat : Int) ≥ 192) = l := by rw [← hl]; exact decide_congr (by omega)
        have w128 : IntKind.i64.wrap ((b.toNat : Int) - 128) = (b.toNat : Int) - 128 := wi64 (by omega) (by omega)
        have w192 : IntKind.i64.wrap ((b.toNat : Int) - 192) = (b.toNat : Int) - 192 := wi64 (by omega) (by omega)
        unfold hdRest
        refine contract_of (C := cf 73 [0, 2, 3, 4, 5, 6, 7, 9, 19, 23, 31, 44, 66] (fun _ => [])) (cf_ok _ _ _) (fn := Try.f26) Try.func26 (by kernel_rfl) rfl (by kernel_rfl) (by simp [cf]) (plain1 (.str _)) (by decide) (cellsOk (by kernel_rfl)) ?_
        simp only [go_sem, ↓reduceIte, Nat.reduceLT, Nat.reduceLeDiff, Nat.reduceAdd, Nat.reduceSub, Nat.reduceMul, Nat.reduceEqDiff, Nat.reduceBEq, Nat.reduceMod, Nat.reduceDiv, Int.reduceToNat, reduceCtorEq, Int.reduceLT, Int.reduceLE, Int.reduceGT, Int.reduceGE, Int.reduceAdd, Int.reduceSub, Int.reduceMul, Int.reduceNeg, Int.reduceEq, Int.reduceNe, Int.reduceBNe, Int.reduceBEq, Int.reduceDiv, e0, e1, e2, wb, hpos, w128]
        cases l
        case' true =>
          have hm2 : (b.toNat : Int) - 192 = (m : Int) := by
            have : 192 ≤ b.toNat := of_decide_eq_true hl
            rw [← hm]; unfold hdLen; rw [if_pos this]; omega
          simp only [go_sem, ↓reduceIte, Nat.reduceLT, Nat.reduceLeDiff, Nat.reduceAdd, Nat.reduceSub, Nat.reduceMul, Nat.reduceEqDiff, Nat.reduceBEq, Nat.reduceMod, Nat.reduceDiv, Int.reduceToNat, reduceCtorEq, Int.reduceLT, Int.reduceLE, Int.reduceGT, Int.reduceGE, Int.reduceAdd, Int.reduceSub, Int.reduceMul, Int.reduceNeg, Int.reduceEq, Int.reduceNe, Int.reduceBNe, Int.reduceBEq, Int.reduceDiv, w192, hm2, wi64n m (by omega)]
        case' false =>
          have hm2 : (b.toNat : Int) - 128 = (m : Int) := by
            have : ¬ 192 ≤ b.toNat := of_decide_eq_false hl
            rw [← hm]; unfold hdLen; rw [if_neg this]; omega
          rw [hm2]
          simp only [go_sem, ↓reduceIte, Nat.reduceLT, Nat.reduceLeDiff, Nat.reduceAdd, Nat.reduceSub, Nat.reduceMul, Nat.reduceEqDiff, Nat.reduceBEq, Nat.reduceMod, Nat.reduceDiv, Int.reduceToNat, reduceCtorEq, Int.reduceLT, Int.reduceLE, Int.reduceGT, Int.reduceGE, Int.reduceAdd, Int.reduceSub, Int.reduceMul, Int.reduceNeg, Int.reduceEq, Int.reduceNe, Int.reduceBNe, Int.reduceBEq, Int.reduceDiv]
        all_goals
          rcases Decidable.em (m ≤ 55) with h55 | h55
          · have e3 : decide ((m : Int) ≤ 55) = true := decide_eq_true (by omega)
            rw [if_pos h55, e3]
            simp only [go_sem, ↓reduceIte, Nat.reduceLT, Nat.reduceLeDiff, Nat.reduceAdd, Nat.reduceSub, Nat.reduceMul, Nat.reduceEqDiff, Nat.reduceBEq, Nat.reduceMod, Nat.reduceDiv, Int.reduceToNat, reduceCtorEq, Int.reduceLT, Int.reduceLE, Int.reduceGT, Int.reduceGE, Int.reduceAdd, Int.reduceSub, Int.reduceMul, Int.reduceNeg, Int.reduceEq, Int.reduceNe, Int.reduceBNe, Int.reduceBEq, Int.reduceDiv]
            refine finTup ?_
            show resOf _ _ [.cell 2 58, .tmp 3] = _
            simp only [go_sem, ↓reduceIte, Nat.reduceLT, Nat.reduceLeDiff, Nat.reduceAdd, Nat.reduceSub, Nat.reduceMul, Nat.reduceEqDiff, Nat.reduceBEq, Nat.reduceMod, Nat.reduceDiv, Int.reduceToNat, reduceCtorEq, Int.reduceLT, Int.reduceLE, Int.reduceGT, Int.reduceGE, Int.reduceAdd, Int.reduceSub, Int.reduceMul, Int.reduceNeg, Int.reduceEq, Int.reduceNe, Int.reduceBNe, Int.reduceBEq, Int.reduceDiv, hdRes]
            rfl
          · have e3 : decide ((m : Int) ≤ 55) = false := decide_eq_false (by omega)
            have w55 : IntKind.i64.wrap ((m : Int) - 55) = ((m - 55 : Nat) : Int) := by rw [wi64 (by omega) (by omega)]; omega
            have wf : IntKind.i64.wrap (1 + ((m - 55 : Nat) : Int)) = ((1 + (m - 55) : Nat) : Int) := by rw [wi64 (by omega) (by omega)]; omega
            rw [if_neg h55, e3]
            rcases Decidable.em (t.length < m - 55) with hlt | hlt
            · have e4 : decide (((t.length + 1 : Nat) : Int) < ((1 + (m - 55) : Nat) : Int)) = true := decide_eq_true (by omega)
              rw [if_pos hlt]
              simp only [go_sem, ↓reduceIte, Nat.reduceLT, Nat.reduceLeDiff, Nat.reduceAdd, Nat.reduceSub, Nat.reduceMul, Nat.reduceEqDiff, Nat.reduceBEq, Nat.reduceMod, Nat.reduceDiv, Int.reduceToNat, reduceCtorEq, Int.reduceLT, Int.reduceLE, Int.reduceGT, Int.reduceGE, Int.reduceAdd, Int.reduceSub, Int.reduceMul, Int.reduceNeg, Int.reduceEq, Int.reduceNe, Int.reduceBNe, Int.reduceBEq, Int.reduceDiv, w55, wf, e4]
              refine finTup ?_
              show resOf _ _ [.cell 2 58, .tmp 3] = _
              simp only [go_sem, ↓reduceIte, Nat.reduceLT, Nat.reduceLeDiff, Nat.reduceAdd, Nat.reduceSub, Nat.reduceMul, Nat.reduceEqDiff, Nat.reduceBEq, Nat.reduceMod, Nat.reduceDiv, Int.reduceToNat, reduceCtorEq, Int.reduceLT, Int.reduceLE, Int.reduceGT, Int.reduceGE, Int.reduceAdd, Int.reduceSub, Int.reduceMul, Int.reduceNeg, Int.reduceEq, Int.reduceNe, Int.reduceBNe, Int.reduceBEq, Int.reduceDiv, hdRes]
              rfl
            · have e4 : decide (((t.length + 1 : Nat) : Int) < ((1 + (m - 55) : Nat) : Int)) = false := decide_eq_false (by omega)
              rw [if_neg hlt]
              simp only [go_sem, ↓reduceIte, Nat.reduceLT, Nat.reduceLeDiff, Nat.reduceAdd, Nat.reduceSub, Nat.reduceMul, Nat.reduceEqDiff, Nat.reduceBEq, Nat.reduceMod, Nat.reduceDiv, Int.reduceToNat, reduceCtorEq, Int.reduceLT, Int.reduceLE, Int.reduceGT, Int.reduceGE, Int.reduceAdd, Int.reduceSub, Int.reduceMul, Int.reduceNeg, Int.reduceEq, Int.reduceNe, Int.reduceBNe, Int.reduceBEq, Int.reduceDiv, w55, wf, e4, Int.toNat_natCast]
              refine ⟨by omega, ?_⟩
              rw [hk]
              rcases Decidable.em (t.head? = some 0) with hz | hz
              · have htu : takeU (t.take (m - 55)) = (0, false) := by
                  unfold takeU
                  rw [if_pos (.inr (by rw [List.head?_take, if_neg (by omega)]; exact hz))]
                rw [htu, u_zero] at hu
                rw [if_pos hz]
                refine ex_call (by exact hu) ?_
                simp only [go_sem, ↓reduceIte, Nat.reduceLT, Nat.reduceLeDiff, Nat.reduceAdd, Nat.reduceSub, Nat.reduceMul, Nat.reduceEqDiff, Nat.reduceBEq, Nat.reduceMod, Nat.reduceDiv, Int.reduceToNat, reduceCtorEq, Int.reduceLT, Int.reduceLE, Int.reduceGT, Int.reduceGE, Int.reduceAdd, Int.reduceSub, Int.reduceMul, Int.reduceNeg, Int.reduceEq, Int.reduceNe, Int.reduceBNe, Int.reduceBEq, Int.reduceDiv]
                refine finTup ?_
                show resOf _ _ [.cell 2 58, .tmp 3] = _
                simp only [go_sem, ↓reduceIte, Nat.reduceLT, Nat.reduceLeDiff, Nat.reduceAdd, Nat.reduceSub, Nat.reduceMul, Nat.reduceEqDiff, Nat.reduceBEq, Nat.reduceMod, Nat.reduceDiv, Int.reduceToNat, reduceCtorEq, Int.reduceLT, Int.reduceLE, Int.reduceGT, Int.reduceGE, Int.reduceAdd, Int.reduceSub, Int.reduceMul, Int.reduceNeg, Int.reduceEq, Int.reduceNe, Int.reduceBNe, Int.reduceBEq, Int.reduceDiv, hdRes]
                rfl
              · have htu : takeU (t.take (m - 55)) = (numOf (t.take (m - 55)), true) := by
                  unfold takeU
                  rw [if_neg (fun h => by
                    rcases h with h | h
                    · omega
                    · rw [List.head?_take, if_neg (by omega)] at h; exact hz h)]
                rw [htu, u_small _ hv] at hu
                rw [if_neg hz]
                refine ex_call (by exact hu) ?_
                generalize numOf (t.take (m - 55)) = v at *
                simp only [go_sem, ↓reduceIte, Nat.reduceLT, Nat.reduceLeDiff, Nat.reduceAdd, Nat.reduceSub, Nat.reduceMul, Nat.reduceEqDiff, Nat.reduceBEq, Nat.reduceMod, Nat.reduceDiv, Int.reduceToNat, reduceCtorEq, Int.reduceLT, Int.reduceLE, Int.reduceGT, Int.reduceGE, Int.reduceAdd, Int.reduceSub, Int.reduceMul, Int.reduceNeg, Int.reduceEq, Int.reduceNe, Int.reduceBNe, Int.reduceBEq, Int.reduceDiv]
                refine ex_call (by exact hc) ?_
                rcases Decidable.em (v > 65536) with h6 | h6
                · rw [if_pos (.inl h6)]
                  rw [decide_eq_true h6] at e5
                  simp only [go_sem, ↓reduceIte, Nat.reduceLT, Nat.reduceLeDiff, Nat.reduceAdd, Nat.reduceSub, Nat.reduceMul, Nat.reduceEqDiff, Nat.reduceBEq, Nat.reduceMod, Nat.reduceDiv, Int.reduceToNat, reduceCtorEq, Int.reduceLT, Int.reduceLE, Int.reduceGT, Int.reduceGE, Int.reduceAdd, Int.reduceSub, Int.reduceMul, Int.reduceNeg, Int.reduceEq, Int.reduceNe, Int.reduceBNe, Int.reduceBEq, Int.reduceDiv, e5]
                  refine finTup ?_
                  show resOf _ _ [.cell 2 58, .tmp 3] = _
                  simp only [go_sem, ↓reduceIte, Nat.reduceLT, Nat.reduceLeDiff, Nat.reduceAdd, Nat.reduceSub, Nat.reduceMul, Nat.reduceEqDiff, Nat.reduceBEq, Nat.reduceMod, Nat.reduceDiv, Int.reduceToNat, reduceCtorEq, Int.reduceLT, Int.reduceLE, Int.reduceGT, Int.reduceGE, Int.reduceAdd, Int.reduceSub, Int.reduceMul, Int.reduceNeg, Int.reduceEq, Int.reduceNe, Int.reduceBNe, Int.reduceBEq, Int.reduceDiv, hdRes]
                  rfl
                · have wv : IntKind.i64.wrap (v : Int) = (v : Int) := wi64n v (by omega)
                  rw [decide_eq_false h6] at e5
                  rcases Decidable.em (v ≤ 55) with h7 | h7
                  · have e7 : decide ((v : Int) ≤ 55) = true := decide_eq_true (by omega)
                    rw [if_pos (.inr h7)]
                    simp only [go_sem, ↓reduceIte, Nat.reduceLT, Nat.reduceLeDiff, Nat.reduceAdd, Nat.reduceSub, Nat.reduceMul, Nat.reduceEqDiff, Nat.reduceBEq, Nat.reduceMod, Nat.reduceDiv, Int.reduceToNat, reduceCtorEq, Int.reduceLT, Int.reduceLE, Int.reduceGT, Int.reduceGE, Int.reduceAdd, Int.reduceSub, Int.reduceMul, Int.reduceNeg, Int.reduceEq, Int.reduceNe, Int.reduceBNe, Int.reduceBEq, Int.reduceDiv, e5, e7, Int.cast_ofNat_Int]
                    refine finTup ?_
                    show resOf _ _ [.cell 2 58, .tmp 3] = _
                    simp only [go_sem, ↓reduceIte, Nat.reduceLT, Nat.reduceLeDiff, Nat.reduceAdd, Nat.reduceSub, Nat.reduceMul, Nat.reduceEqDiff, Nat.reduceBEq, Nat.reduceMod, Nat.reduceDiv, Int.reduceToNat, reduceCtorEq, Int.reduceLT, Int.reduceLE, Int.reduceGT, Int.reduceGE, Int.reduceAdd, Int.reduceSub, Int.reduceMul, Int.reduceNeg, Int.reduceEq, Int.reduceNe, Int.reduceBNe, Int.reduceBEq, Int.reduceDiv, hdRes]
                    rfl
                  · have e7 : decide ((v : Int) ≤ 55) = false := decide_eq_false (by omega)
                    rw [if_neg (by omega)]
                    simp only [go_sem, ↓reduceIte, Nat.reduceLT, Nat.reduceLeDiff, Nat.reduceAdd, Nat.reduceSub, Nat.reduceMul, Nat.reduceEqDiff, Nat.reduceBEq, Nat.reduceMod, Nat.reduceDiv, Int.reduceToNat, reduceCtorEq, Int.reduceLT, Int.reduceLE, Int.reduceGT, Int.reduceGE, Int.reduceAdd, Int.reduceSub, Int.reduceMul, Int.reduceNeg, Int.reduceEq, Int.reduceNe, Int.reduceBNe, Int.reduceBEq, Int.reduceDiv, e5, e7, wv, Int.cast_ofNat_Int]
                    refine finTup ?_
                    show resOf _ _ [.cell 2 58, .tmp 3] = _
                    simp only [go_sem, ↓reduceIte, Nat.reduceLT, Nat.reduceLeDiff, Nat.reduceAdd, Nat.reduceSub, Nat.reduceMul, Nat.reduceEqDiff, Nat.reduceBEq, Nat.reduceMod, Nat.reduceDiv, Int.reduceToNat, reduceCtorEq, Int.reduceLT, Int.reduceLE, Int.reduceGT, Int.reduceGE, Int.reduceAdd, Int.reduceSub, Int.reduceMul, Int.reduceNeg, Int.reduceEq, Int.reduceNe, Int.reduceBNe, Int.reduceBEq, Int.reduceDiv, hdRes]
      exact main _ _ rfl rfl
end Go.Proofs.Ytmngjlgeojbghaa.VA
end
section
namespace Go.Proofs.Ytmngjlgeojbghaa.VA
set_option maxRecDepth 10000
set_option maxHeartbeats 16000000

theorem hd_err {s : List UInt8} {e : Nat} (h : hdOf s = .error e) : e = 7 ∨ e = 1 := by
  cases s with
  | nil => cases h; exact .inl rfl
  | cons b t =>
    rw [hd_cons] at h
    split at h
    · cases h
    · unfold hdRest at h
      split at h
      · cases h
      · split at h
        · cases h; exact .inl rfl
        · split at h
          · cases h; exact .inr rfl
          · split at h
            · cases h; exact .inr rfl
            · cases h
theorem hd_bounds {s : List UInt8} {l : Bool} {f n : Nat} (h : hdOf s = .ok (l, f, n)) : f ≤ 6 ∧ n ≤ 65536 ∧ (l = true → 1 ≤ f) := by
  rcases hd_back h with ⟨rfl, rfl, rfl, _⟩ | ⟨h1, h2, h3, h4⟩
  · exact ⟨by omega, by omega, fun e => by cases e⟩
  · have := ahead_le (n := n) (by omega)
    have := ahead_pos n
    exact ⟨by omega, h3, fun _ => by omega⟩
/-- What one tells, at any depth. -/
def oneR (d : Nat) (s : List UInt8) : Except Nat (ItemD × Nat) :=
  match hdOf s with
  | .error e => .error e
  | .ok (l, f, n) =>
    if (l = true ∧ 16 ≤ d) ∨ 65536 < f + n then .error 1
    else if s.length < f + n then .error 7
    else if l = false then (if 0 < f ∧ aloneB ((s.drop f).take n) = true then .error 1 else .ok (.mk false ((s.drop f).take n) [], f + n))
    else match itemsP (d + 1) ((s.drop f).take n) with
      | some xs => .ok (.mk true [] xs, f + n)
      | none => .error 1
theorem one_parse (d : Nat) (s : List UInt8) : match oneR d s with | .ok r => parse d s = .ok r | .error e => ∃ e', parse d s = .error e' ∧ (d < 16 → e' = e) := by
  unfold oneR
  rw [parse]
  cases hh : hdOf s with
  | error e => exact ⟨e, rfl, fun _ => rfl⟩
  | ok r =>
    obtain ⟨l, f, n⟩ := r
    obtain ⟨b1, b2, b3⟩ := hd_bounds hh
    simp only
    cases l with
    | false =>
      rcases Decidable.em (f + n > 65536) with h1 | h1
      · rw [if_pos (.inr h1), if_pos h1]; exact ⟨1, rfl, fun _ => rfl⟩
      · rw [if_neg (show ¬ ((false = true ∧ 16 ≤ d) ∨ 65536 < f + n) from fun h => h.elim (fun h => by cases h.1) h1), if_neg h1]
        rcases Decidable.em (s.length < f + n) with h2 | h2
        · rw [if_pos h2, if_pos h2]; exact ⟨7, rfl, fun _ => rfl⟩
        · rw [if_neg h2, if_neg h2, if_pos rfl, if_pos rfl]
          split
          · rename_i r' e
            split at e <;> first | (cases e; done) | skip
            rename_i h3
            rw [if_neg h3]; exact e
          · rename_i e' e
            split at e
            · rename_i h3
              rw [if_pos h3]; cases e; exact ⟨1, rfl, fun _ => rfl⟩
            · cases e
    | true =>
      have hf := b3 rfl
      rcases Decidable.em (f + n > 65536) with h1 | h1
      · rw [if_pos (.inr h1), if_pos h1]; exact ⟨1, rfl, fun _ => rfl⟩
      · rw [if_neg h1]
        rcases Decidable.em (16 ≤ d) with h4 | h4
        · rw [if_pos (.inl ⟨rfl, h4⟩)]
          rcases Decidable.em (s.length < f + n) with h2 | h2
          · rw [if_pos h2]; exact ⟨7, rfl, fun h => absurd h (by omega)⟩
          · rw [if_neg h2, if_neg (by simp), if_pos h4]; exact ⟨1, rfl, fun _ => rfl⟩
        · rw [if_neg (show ¬ ((true = true ∧ 16 ≤ d) ∨ 65536 < f + n) from fun h => h.elim (fun h => h4 h.2) h1)]
          rcases Decidable.em (s.length < f + n) with h2 | h2
          · rw [if_pos h2, if_pos h2]; exact ⟨7, rfl, fun _ => rfl⟩
          · have hb : ((s.drop f).take n).length < s.length := by rw [List.length_take, List.length_drop]; omega
            rw [if_neg h2, if_neg h2, if_neg (by simp), if_neg (by simp), if_neg h4, dif_pos hb]
            cases itemsP (d + 1) ((s.drop f).take n) with
            | none => exact ⟨1, rfl, fun _ => rfl⟩
            | some xs => rfl
theorem one_zero (s : List UInt8) : oneR 0 s = parse 0 s := by
  have h := one_parse 0 s
  cases ho : oneR 0 s with
  | ok r => rw [ho] at h; exact h.symm
  | error e => rw [ho] at h; obtain ⟨e', h1, h2⟩ := h; rw [h1, h2 (by decide)]
theorem items_one {d : Nat} {s : List UInt8} (hs : s ≠ []) : itemsP d s = match oneR d s with
    | .error _ => none
    | .ok (x, k) => (itemsP d (s.drop k)).map (x :: ·) := by
  have h := one_parse d s
  rw [itemsP_cons hs]
  cases ho : oneR d s with
  | ok r =>
    rw [ho] at h
    obtain ⟨x, k⟩ := r
    have h : parse d s = .ok (x, k) := h
    have := (parse_ok h).pos
    rw [h]
    simp only
    rw [if_pos (by omega)]
  | error e => rw [ho] at h; obtain ⟨e', h1, h2⟩ := h; rw [h1]
def resP : Except Nat (ItemD × Nat) → AV
  | .error e => .tup [.agg [.bool false, .str [], .sl false 3 []], .int .i64 (0 : Int), .int .i64 (e : Int)]
  | .ok (it, k) => .tup [.agg [.bool it.list, .str it.text, .sl false 3 (it.items.map ItemD.av)], .int .i64 (k : Int), .int .i64 (0 : Int)]
theorem fins3 {a b : AV} (h : Dull a b) (r : List AV) : Fins (a :: r) (b :: r) := .cons (.dull h) (finsRefl _)
theorem dull_item (l : Bool) (t : List UInt8) (fr : Bool) (es : List AV) : Dull (.agg [.bool l, .str t, .sl fr 3 es]) (.agg [.bool l, .str t, .sl false 3 es]) := dulls_agg (.cons (.refl _) (.cons (.refl _) (.cons (dsl _ _ _) .nil)))
theorem dull_none (l : Bool) (t : List UInt8) : Dull (.agg [.bool l, .str t, .ext nilP]) (.agg [.bool l, .str t, .sl false 3 []]) := dulls_agg (.cons (.refl _) (.cons (.refl _) (.cons (.nil _ _) .nil)))
theorem c_one (N : Nat) : ∀ (s : List UInt8) (d : Nat), s.length ≤ N → s.length ≤ 16777216 → d ≤ 16 → Contract Try.prog 19 [.str s, .int .i64 d] (resP (oneR d s)) := by
  induction N using Nat.strongRecOn with
  | _ N ih =>
    intro s d hN hs hd
    have hr := c_item_read s (by omega)
    have wd : IntKind.i64.wrap ((d : Int) + 1) = ((d + 1 : Nat) : Int) := wi64_nat d (by omega)
    cases hh : hdOf s with
    | error e =>
      have he := hd_err hh
      have e0 : ((e : Int) != 0) = true := by rcases he with rfl | rfl <;> rfl
      have ho : oneR d s = .error e := by unfold oneR; rw [hh]
      rw [ho]
      rw [hh] at hr
      unfold hdRes at hr
      refine contract_of (C := cf 104 [0, 1, 4, 5, 6, 7, 8, 9, 10, 11, 12, 19, 27, 39, 45, 63, 81, 91] (fun _ => [])) (cf_ok _ _ _) (fn := Try.f19) Try.func19 (by kernel_rfl) rfl (by kernel_rfl) (by simp [cf]) (plain2 (.str _) (.int _ _)) (by decide) (cellsOk (by kernel_rfl)) ?_
      simp only [go_sem, seval]
      refine ex_call (by exact hr) ?_
      simp only [go_sem, seval, e0]
      refine finTupD (vs' := [.agg [.bool false, .str [], .ext nilP], .int .i64 (0 : Int), .int .i64 (e : Int)]) ?_ (fins3 (dull_none _ _) _)
      show resOf _ _ [.cell 4 26, .tmp 5, .tmp 6] = _
      simp only [go_sem, seval]
    | ok r =>
      obtain ⟨l, f, n⟩ := r
      obtain ⟨b1, b2, b3⟩ := hd_bounds hh
      rw [hh] at hr
      unfold hdRes at hr
      have wfn : IntKind.i64.wrap ((f : Int) + (n : Int)) = ((f + n : Nat) : Int) := by rw [wi64 (by omega) (by omega)]; omega
      have hsub : f + n - f = n := by omega
      refine contract_of (C := cf 104 [0, 1, 4, 5, 6, 7, 8, 9, 10, 11, 12, 19, 27, 39, 45, 63, 81, 91] (fun _ => [])) (cf_ok _ _ _) (fn := Try.f19) Try.func19 (by kernel_rfl) rfl (by kernel_rfl) (by simp [cf]) (plain2 (.str _) (.int _ _)) (by decide) (cellsOk (by kernel_rfl)) ?_
      simp only [go_sem, seval]
      refine ex_call (by exact hr) ?_
      unfold oneR
      rw [hh]
      simp only
      rcases Decidable.em ((l = true ∧ 16 ≤ d) ∨ 65536 < f + n) with h1 | h1
      · rw [if_pos h1]
        have e1 : decide (((f + n : Nat) : Int) > 65536) = decide (65536 < f + n) := decide_congr (by omega)
        have e2 : decide ((d : Int) ≥ 16) = decide (16 ≤ d) := decide_congr (by omega)
        have e3 : (l && decide (16 ≤ d) || decide (65536 < f + n)) = true := by
          cases l <;> simp_all
        simp only [go_sem, seval, wfn]
        refine ex_joinB 27 (l && decide (16 ≤ d) || decide (65536 < f + n)) ?_ ?_
        · repeat' (first | (refine ex_split (fun h => ?_) (fun h => ?_)) | (with_reducible refine And.intro (by omega) ?_) |
            (simp only [go_sem, seval, wfn, e1, e2]))
          all_goals (try simp only [ASt.mk.injEq, List.cons.injEq, Prod.mk.injEq, AV.bool.injEq, true_and, and_true, eq_self])
          all_goals first | (simp_all; done) | (simp_all; omega) | (rw [Bool.eq_iff_iff]; simp only [List.length_map, Bool.or_eq_true, Bool.and_eq_true, Bool.not_eq_true', Bool.not_eq_false', decide_eq_true_eq, decide_eq_false_iff_not, bne_iff_ne, beq_iff_eq, ne_eq, true_iff, iff_true, false_iff, iff_false, Bool.false_eq_true, not_false_eq_true, not_true_eq_false] at *; omega)
        rw [e3]
        simp only [go_sem, seval]
        refine finTupD (vs' := [.agg [.bool false, .str [], .ext nilP], .int .i64 (0 : Int), .int .i64 (1 : Int)]) ?_ (fins3 (dull_none _ _) _)
        show resOf _ _ [.cell 4 26, .tmp 5, .tmp 6] = _
        simp only [go_sem, seval]
      · rw [if_neg h1]
        have h2 : ¬ 65536 < f + n := fun h => h1 (.inr h)
        have e1 : decide (((f + n : Nat) : Int) > 65536) = false := decide_eq_false (by omega)
        rcases Decidable.em (s.length < f + n) with h3 | h3
        · rw [if_pos h3]
          have e3 : decide (((f + n : Nat) : Int) > (s.length : Int)) = true := decide_eq_true (by omega)
          cases l with
          | false =>
            simp only [go_sem, seval, wfn, e1, e3]
            refine finTupD (vs' := [.agg [.bool false, .str [], .ext nilP], .int .i64 (0 : Int), .int .i64 (7 : Int)]) ?_ (fins3 (dull_none _ _) _)
            show resOf _ _ [.cell 4 26, .tmp 5, .tmp 6] = _
            simp only [go_sem, seval]
          | true =>
            have e2 : decide ((d : Int) ≥ 16) = false := decide_eq_false fun h => h1 (.inl ⟨rfl, by omega⟩)
            simp only [go_sem, seval, wfn, e1, e2, e3]
            refine finTupD (vs' := [.agg [.bool false, .str [], .ext nilP], .int .i64 (0 : Int), .int .i64 (7 : Int)]) ?_ (fins3 (dull_none _ _) _)
            show resOf _ _ [.cell 4 26, .tmp 5, .tmp 6] = _
            simp only [go_sem, seval]
        · rw [if_neg h3]
          have e3 : decide (((f + n : Nat) : Int) > (s.length : Int)) = false := decide_eq_false (by omega)
          have hlen : ((s.drop f).take n).length = n := by rw [List.length_take, List.length_drop]; omega
          cases l with
          | false =>
            rw [if_pos rfl]
            have ha := c_item_alone ((s.drop f).take n) (by omega)
            rcases Decidable.em (0 < f) with h4 | h4
            · have e4 : decide ((f : Int) > 0) = true := decide_eq_true (by omega)
              simp only [go_sem, seval, wfn, e1, e3, e4, Int.toNat_natCast, hsub]
              refine ⟨by omega, ?_⟩
              refine ex_call (by exact ha) ?_
              cases hal : aloneB ((s.drop f).take n) with
              | true =>
                rw [if_pos ⟨h4, rfl⟩]
                simp only [go_sem, seval]
                refine finTupD (vs' := [.agg [.bool false, .str [], .ext nilP], .int .i64 (0 : Int), .int .i64 (1 : Int)]) ?_ (fins3 (dull_none _ _) _)
                show resOf _ _ [.cell 4 26, .tmp 5, .tmp 6] = _
                simp only [go_sem, seval]
              | false =>
                rw [if_neg (fun h => by cases h.2)]
                simp only [go_sem, seval, Int.toNat_natCast, hsub]
                refine ⟨by omega, ?_⟩
                refine finTupD (vs' := [.agg [.bool false, .str ((s.drop f).take n), .ext nilP], .int .i64 ((f + n : Nat) : Int), .int .i64 (0 : Int)]) ?_ (fins3 (dull_none _ _) _)
                show resOf _ _ [.cell 4 26, .tmp 5, .tmp 6] = _
                simp only [go_sem, seval]
            · have e4 : decide ((f : Int) > 0) = false := decide_eq_false (by omega)
              rw [if_neg (fun h => h4 h.1)]
              simp only [go_sem, seval, wfn, e1, e3, e4, Int.toNat_natCast, hsub]
              refine ⟨by omega, ?_⟩
              refine finTupD (vs' := [.agg [.bool false, .str ((s.drop f).take n), .ext nilP], .int .i64 ((f + n : Nat) : Int), .int .i64 (0 : Int)]) ?_ (fins3 (dull_none _ _) _)
              show resOf _ _ [.cell 4 26, .tmp 5, .tmp 6] = _
              simp only [go_sem, seval]
          | true =>
            have hf := b3 rfl
            have hd16 : d < 16 := by
              rcases Nat.lt_or_ge d 16 with h | h
              · exact h
              · exact absurd (.inl ⟨rfl, h⟩) h1
            have e2 : decide ((d : Int) ≥ 16) = false := decide_eq_false (by omega)
            rw [if_neg (by simp)]
            obtain ⟨body, hbody⟩ : ∃ body, body = (s.drop f).take n := ⟨_, rfl⟩
            rw [← hbody] at hlen ⊢
            simp only [go_sem, seval, wfn, e1, e2, e3, Int.toNat_natCast, hsub]
            refine ⟨by omega, ?_⟩
            rw [← hbody]
            refine ex_iter [1, 4, 8, 9] (fun q : List ItemD × List UInt8 => ⟨[(1, .int .i64 d), (4, .var 4 0), (8, .int .i64 (f + n : Nat)), (9, .str q.2)], [(4, [.bool true, .str [], .own false 3 (q.1.map ItemD.av)])], []⟩)
              (fun q => q.1.length + q.2.length ≤ n ∧ itemsP (d + 1) body = (itemsP (d + 1) q.2).map (q.1 ++ ·)) (fun q => q.2.length) ([], body) ?_ ?_ ?_
            · simp only [ASt.keep, consIf, keepL, keepV, AV.isBot, List.contains_cons, List.contains_nil, Nat.reduceBEq, Bool.or_false, Bool.false_or, Bool.or_true, Bool.true_or, beq_self_eq_true, Bool.false_eq_true, ↓reduceIte, if_false, if_true]
              rfl
            · refine ⟨by simp only [List.length_nil]; omega, ?_⟩
              cases itemsP (d + 1) body <;> rfl
            · rintro r ⟨xs, rest⟩ ⟨hq1, hq2⟩ next
              simp only at hq1 hq2
              simp only [go_sem, seval]
              refine ex_br (fun hc => ?_) (fun hc => ?_)
              · have hne : rest ≠ [] := by rintro rfl; simp at hc
                have hone := items_one (d := d + 1) hne
                have hcall := ih rest.length (by omega) rest (d + 1) (Nat.le_refl _) (by omega) (by omega)
                have hp := one_parse (d + 1) rest
                simp only [go_sem, seval, wd]
                cases ho : oneR (d + 1) rest with
                | error e =>
                  rw [ho] at hcall hone hp
                  have he0 : ((e : Int) != 0) = true := by
                    unfold oneR at ho
                    cases hh2 : hdOf rest with
                    | error e2 =>
                      rw [hh2] at ho
                      cases ho
                      rcases hd_err hh2 with rfl | rfl <;> rfl
                    | ok r2 =>
                      obtain ⟨l2, f2, n2⟩ := r2
                      rw [hh2] at ho
                      simp only at ho
                      repeat' (split at ho)
                      all_goals first | (cases ho; rfl) | (cases ho; done)
                  have hnone : itemsP (d + 1) body = none := by rw [hq2, hone]; rfl
                  rw [hnone]
                  unfold resP at hcall
                  refine ex_call (by exact hcall) ?_
                  simp only [go_sem, seval, he0]
                  refine finTupD (vs' := [.agg [.bool false, .str [], .ext nilP], .int .i64 (0 : Int), .int .i64 (1 : Int)]) ?_ (fins3 (dull_none _ _) _)
                  show resOf _ _ [.cell 4 26, .tmp 5, .tmp 6] = _
                  simp only [go_sem, seval]
                | ok r2 =>
                  obtain ⟨x, k⟩ := r2
                  rw [ho] at hcall hone hp
                  have hp : parse (d + 1) rest = .ok (x, k) := hp
                  have hpo := parse_ok hp
                  have hp1 := hpo.pos
                  have hp2 := hpo.le
                  unfold resP at hcall
                  refine ex_call (by exact hcall) ?_
                  simp only [go_sem, seval]
                  refine ex_draw [9] [] (.quiet 0 (.quiet 1 (.quiet 2 (.quiet 5 (.quiet 6 (.quiet 7 (.one 3 (.one 4 (.quiet 8 (.unlock (.one 9 (.quiet 10 (.fin))))))))))))) (by kernel_rfl) ?_
                  simp only [go_sem, seval, List.length_map, Int.toNat_natCast]
                  repeat with_reducible refine And.intro (by first | omega | (simp only [List.length_cons, List.length_append, List.length_nil, List.length_map, List.length_take, List.length_drop, List.length_set]; omega)) ?_
                  refine next (xs ++ [x], rest.drop k) _ ?_ ?_ ?_
                  · refine ⟨by simp only [List.length_append, List.length_singleton, List.length_drop]; omega, ?_⟩
                    simp only
                    rw [hq2, hone]
                    simp only [Option.map_map]
                    congr 1
                    funext ys
                    simp
                  · simp only [List.length_drop]; omega
                  · simp only [ASt.keep, consIf, keepL, keepV, AV.isBot, List.contains_cons, List.contains_nil, Nat.reduceBEq, Bool.or_false, Bool.false_or, Bool.or_true, Bool.true_or, beq_self_eq_true, Bool.false_eq_true, ↓reduceIte, if_false, if_true]
                    simp only [List.map_append, List.map_cons, List.map_nil, ItemD.av_eq, ItemD.cells]
                    rw [List.take_of_length_le (by simp)]
              · have hnil : rest = [] := by simpa using hc
                subst hnil
                have hsome : itemsP (d + 1) body = some xs := by rw [hq2, itemsP_nil]; simp
                rw [hsome]
                simp only [go_sem, seval]
                refine finTupD (vs' := [.agg [.bool true, .str [], .sl true 3 (xs.map ItemD.av)], .int .i64 ((f + n : Nat) : Int), .int .i64 (0 : Int)]) ?_ (fins3 (dull_item _ _ _ _) _)
                show resOf _ _ [.cell 4 26, .tmp 5, .tmp 6] = _
                simp only [go_sem, seval]
theorem c_item_Take (s : List UInt8) (hs : s.length ≤ 16777216) : Contract Try.prog 9 [.str s] (resP (parse 0 s)) := by
  have h := c_one s.length s 0 (Nat.le_refl _) hs (by omega)
  rw [one_zero] at h
  cases hp : parse 0 s with
  | error e =>
    rw [hp] at h
    unfold resP at h
    refine contract_of (C := cf 10 [0, 2, 3, 4] (fun _ => [])) (cf_ok _ _ _) (fn := Try.f9) Try.func9 (by kernel_rfl) rfl (by kernel_rfl) (by simp [cf]) (plain1 (.str _)) (by decide) (cellsOk (by kernel_rfl)) ?_
    simp only [go_sem, seval]
    refine ex_call (by exact h) ?_
    simp only [go_sem, seval]
    refine finTup ?_
    show resOf _ _ [.cell 2 26, .tmp 3, .tmp 4] = _
    simp only [go_sem, seval]
  | ok r =>
    obtain ⟨it, k⟩ := r
    rw [hp] at h
    unfold resP at h
    refine contract_of (C := cf 10 [0, 2, 3, 4] (fun _ => [])) (cf_ok _ _ _) (fn := Try.f9) Try.func9 (by kernel_rfl) rfl (by kernel_rfl) (by simp [cf]) (plain1 (.str _)) (by decide) (cellsOk (by kernel_rfl)) ?_
    simp only [go_sem, seval]
    refine ex_call (by exact h) ?_
    simp only [go_sem, seval]
    refine finTup ?_
    show resOf _ _ [.cell 2 26, .tmp 3, .tmp 4] = _
    simp only [go_sem, seval]
/-- The item that all of the bytes are. -/
def parseAll (s : List UInt8) : Except Nat ItemD :=
  match parse 0 s with
  | .error e => .error e
  | .ok (it, k) => if k < s.length then .error 1 else .ok it
def resA : Except Nat ItemD → AV
  | .error e => .tup [.agg [.bool false, .str [], .sl false 3 []], .int .i64 (e : Int)]
  | .ok it => .tup [.agg [.bool it.list, .str it.text, .sl false 3 (it.items.map ItemD.av)], .int .i64 (0 : Int)]
theorem parse_err {s : List UInt8} {e : Nat} (h : parse 0 s = .error e) : e = 7 ∨ e = 1 := by
  rw [← one_zero] at h
  unfold oneR at h
  cases hh : hdOf s with
  | error e2 => rw [hh] at h; cases h; exact hd_err hh
  | ok r2 =>
    obtain ⟨l2, f2, n2⟩ := r2
    rw [hh] at h
    simp only at h
    repeat' (split at h)
    all_goals first | (cases h; omega) | (cases h; done)
theorem c_item_Parse (s : List UInt8) (hs : s.length ≤ 16777216) : Contract Try.prog 14 [.str s] (resA (parseAll s)) := by
  have h := c_item_Take s hs
  unfold parseAll
  cases hp : parse 0 s with
  | error e =>
    rw [hp] at h
    unfold resP at h
    have e0 : ((e : Int) != 0) = true := by rcases parse_err hp with rfl | rfl <;> rfl
    refine contract_of (C := cf 25 [0, 2, 3, 4, 5, 6, 13, 18] (fun _ => [])) (cf_ok _ _ _) (fn := Try.f14) Try.func14 (by kernel_rfl) rfl (by kernel_rfl) (by simp [cf]) (plain1 (.str _)) (by decide) (cellsOk (by kernel_rfl)) ?_
    simp only [go_sem, seval]
    refine ex_call (by exact h) ?_
    simp only [go_sem, seval, e0]
    refine finTupD (vs' := [.agg [.bool false, .str [], .ext nilP], .int .i64 (e : Int)]) ?_ (fins3 (dull_none _ _) _)
    show resOf _ _ [.cell 2 26, .tmp 3] = _
    simp only [go_sem, seval]
  | ok r =>
    obtain ⟨it, k⟩ := r
    rw [hp] at h
    unfold resP at h
    simp only
    rcases Decidable.em (k < s.length) with hk | hk
    · rw [if_pos hk]
      have e1 : decide ((k : Int) < (s.length : Int)) = true := decide_eq_true (by omega)
      refine contract_of (C := cf 25 [0, 2, 3, 4, 5, 6, 13, 18] (fun _ => [])) (cf_ok _ _ _) (fn := Try.f14) Try.func14 (by kernel_rfl) rfl (by kernel_rfl) (by simp [cf]) (plain1 (.str _)) (by decide) (cellsOk (by kernel_rfl)) ?_
      simp only [go_sem, seval]
      refine ex_call (by exact h) ?_
      simp only [go_sem, seval, e1]
      refine finTupD (vs' := [.agg [.bool false, .str [], .ext nilP], .int .i64 (1 : Int)]) ?_ (fins3 (dull_none _ _) _)
      show resOf _ _ [.cell 2 26, .tmp 3] = _
      simp only [go_sem, seval]
    · rw [if_neg hk]
      have e1 : decide ((k : Int) < (s.length : Int)) = false := decide_eq_false (by omega)
      refine contract_of (C := cf 25 [0, 2, 3, 4, 5, 6, 13, 18] (fun _ => [])) (cf_ok _ _ _) (fn := Try.f14) Try.func14 (by kernel_rfl) rfl (by kernel_rfl) (by simp [cf]) (plain1 (.str _)) (by decide) (cellsOk (by kernel_rfl)) ?_
      simp only [go_sem, seval]
      refine ex_call (by exact h) ?_
      simp only [go_sem, seval, e1]
      refine finTup ?_
      show resOf _ _ [.cell 2 26, .tmp 3] = _
      simp only [go_sem, seval]
end Go.Proofs.Ytmngjlgeojbghaa.VA
end
section
namespace Go.Proofs.Ytmngjlgeojbghaa.VA
set_option maxRecDepth 10000
set_option maxHeartbeats 16000000

def bodyR (d : Nat) (s : List UInt8) (l : Bool) (f n : Nat) : Except Nat (ItemD × Nat) :=
  if f + n > 65536 then .error 1
  else if s.length < f + n then .error 7
  else if l = false then (if 0 < f ∧ aloneB ((s.drop f).take n) = true then .error 1 else .ok (.mk false ((s.drop f).take n) [], f + n))
  else if 16 ≤ d then .error 1
  else match itemsP (d + 1) ((s.drop f).take n) with
    | some xs => .ok (.mk true [] xs, f + n)
    | none => .error 1
theorem parse_body {d : Nat} {s : List UInt8} {l : Bool} {f n : Nat} (hh : hdOf s = .ok (l, f, n)) : parse d s = bodyR d s l f n := by
  obtain ⟨b1, b2, b3⟩ := hd_bounds hh
  rw [parse, hh]
  unfold bodyR
  simp only
  split
  · rfl
  · split
    · rfl
    · split
      · rfl
      · split
        · rfl
        · rename_i h1 h2 h3 h4
          have hl : l = true := by cases l <;> simp_all
          have := b3 hl
          rw [dif_pos (by rw [List.length_take, List.length_drop]; omega)]
          all_goals (cases itemsP (d + 1) ((s.drop f).take n) <;> rfl)
theorem parse_errD {d : Nat} {s : List UInt8} {e : Nat} (h : parse d s = .error e) : e = 7 ∨ e = 1 := by
  cases hh : hdOf s with
  | error e2 => rw [parse, hh] at h; cases h; exact hd_err hh
  | ok r2 =>
    obtain ⟨l2, f2, n2⟩ := r2
    rw [parse_body hh] at h
    unfold bodyR at h
    repeat' (split at h)
    all_goals first | (cases h; omega) | (cases h; done)
theorem numOf_take_le (t : List UInt8) {i k : Nat} (h : i ≤ k) : numOf (t.take i) ≤ numOf (t.take k) := by
  have e : t.take k = t.take i ++ (t.drop i).take (k - i) := by
    rw [← List.take_add]; congr 1; omega
  rw [e, numOf_append]
  have : 0 < 256 ^ ((t.drop i).take (k - i)).length := Nat.pow_pos (by decide)
  have := Nat.le_mul_of_pos_right (numOf (t.take i)) this
  omega
theorem c_take (N : Nat) : ∀ (s : List UInt8) (d : Nat), s.length ≤ N → s.length ≤ 16777216 → d ≤ 16 → Contract Try.prog 21 [.str s, .int .i64 d] (resP (parse d s)) := by
  induction N using Nat.strongRecOn with
  | _ N ih =>
    intro s d hN hs hd
    have wd : IntKind.i64.wrap ((d : Int) + 1) = ((d + 1 : Nat) : Int) := wi64_nat d (by omega)
    cases s with
    | nil =>
      have hp : parse d [] = .error 7 := by rw [parse]; rfl
      rw [hp]
      refine contract_of (C := cf 139 [0, 1, 4, 5, 6, 7, 8, 9, 10, 11, 12, 13, 14, 15, 16, 17, 18, 22, 28, 34, 40, 47, 51, 55, 67, 70, 77, 84, 93, 100, 109, 114, 124] (fun _ => [])) (cf_ok _ _ _) (fn := Try.f21) Try.func21 (by kernel_rfl) rfl (by kernel_rfl) (by simp [cf]) (plain2 (.str _) (.int _ _)) (by decide) (cellsOk (by kernel_rfl)) ?_
      simp only [go_sem, seval, Int.cast_ofNat_Int]
      refine finTupD (vs' := [.agg [.bool false, .str [], .ext nilP], .int .i64 (0 : Int), .int .i64 (7 : Int)]) ?_ (fins3 (dull_none _ _) _)
      show resOf _ _ [.cell 4 26, .tmp 5, .tmp 6] = _
      simp only [go_sem, seval]
    | cons b t =>
      rw [List.length_cons] at hN hs
      have hb : b.toNat < 256 := b.toNat_lt
      have wb : IntKind.i64.wrap (b.toNat : Int) = (b.toNat : Int) := wi64n _ (by omega)
      have hpos : (0 : Int) < ((t.length + 1 : Nat) : Int) := by omega
      have e0 : (((t.length + 1 : Nat) : Int) == 0) = false := by simpa using (by omega : ¬ ((t.length + 1 : Nat) : Int) = 0)
      rcases Decidable.em (b.toNat < 128) with h1 | h1
      · have hh : hdOf (b :: t) = .ok (false, 0, 1) := by rw [hd_cons, if_pos h1]
        have hp : parse d (b :: t) = .ok (.mk false [b] [], 1) := by
          rw [parse_body hh]
          unfold bodyR
          rw [if_neg (by omega), if_neg (by simp), if_pos rfl, if_neg (by omega)]
          rfl
        rw [hp]
        have e1 : decide ((b.toNat : Int) < 128) = true := decide_eq_true (by omega)
        have hle : (1 : Int) ≤ ((t.length + 1 : Nat) : Int) := by omega
        refine contract_of (C := cf 139 [0, 1, 4, 5, 6, 7, 8, 9, 10, 11, 12, 13, 14, 15, 16, 17, 18, 22, 28, 34, 40, 47, 51, 55, 67, 70, 77, 84, 93, 100, 109, 114, 124] (fun _ => [])) (cf_ok _ _ _) (fn := Try.f21) Try.func21 (by kernel_rfl) rfl (by kernel_rfl) (by simp [cf]) (plain2 (.str _) (.int _ _)) (by decide) (cellsOk (by kernel_rfl)) ?_
        simp only [go_sem, seval, e0, e1, wb, hpos, hle, Int.cast_ofNat_Int]
        refine finTupD (vs' := [.agg [.bool false, .str [b], .ext nilP], .int .i64 (1 : Int), .int .i64 (0 : Int)]) ?_ (fins3 (dull_none _ _) _)
        show resOf _ _ [.cell 4 26, .tmp 5, .tmp 6] = _
        simp only [go_sem, seval]
      · have e1 : decide ((b.toNat : Int) < 128) = false := decide_eq_false (by omega)
        have hcons : hdOf (b :: t) = hdRest (decide (192 ≤ b.toNat)) (hdLen b) t := by rw [hd_cons, if_neg h1]
        obtain ⟨l, hl⟩ : ∃ l, decide (192 ≤ b.toNat) = l := ⟨_, rfl⟩
        obtain ⟨m, hm⟩ : ∃ m, hdLen b = m := ⟨_, rfl⟩
        rw [hl, hm] at hcons
        have hm64 : m < 64 := by rw [← hm]; unfold hdLen; split <;> omega
        have e2 : decide ((b.toNat : Int) ≥ 192) = l := by rw [← hl]; exact decide_congr (by omega)
        have w64 : IntKind.i64.wrap ((b.toNat : Int) - 64) = (b.toNat : Int) - 64 := wi64 (by omega) (by omega)
        have wl : l = true → IntKind.i64.wrap ((b.toNat : Int) - 64 - 128) = (m : Int) := fun e => by
          rw [wi64 (by omega) (by omega)]
          rw [e] at hl
          have : 192 ≤ b.toNat := of_decide_eq_true hl
          rw [← hm]; unfold hdLen; rw [if_pos this]; omega
        have wt : l = false → IntKind.i64.wrap ((b.toNat : Int) - 128) = (m : Int) := fun e => by
          rw [wi64 (by omega) (by omega)]
          rw [e] at hl
          have : ¬ 192 ≤ b.toNat := of_decide_eq_false hl
          rw [← hm]; unfold hdLen; rw [if_neg this]; omega
        refine contract_of (C := cf 139 [0, 1, 4, 5, 6, 7, 8, 9, 10, 11, 12, 13, 14, 15, 16, 17, 18, 22, 28, 34, 40, 47, 51, 55, 67, 70, 77, 84, 93, 100, 109, 114, 124] (fun _ => [])) (cf_ok _ _ _) (fn := Try.f21) Try.func21 (by kernel_rfl) rfl (by kernel_rfl) (by simp [cf]) (plain2 (.str _) (.int _ _)) (by decide) (cellsOk (by kernel_rfl)) ?_
        simp only [go_sem, seval, e0, e1, e2, wb, hpos]
        refine ex_cut (fun x : Int => ⟨[(0, .str (b :: t)), (1, .int .i64 d), (4, .var 4 0), (5, .int .i64 (0 : Int)), (6, .int .i64 (0 : Int)), (7, .var 7 0), (8, .int .i64 x), (9, .bool l), (22, .bool false), (28, .bool false), (34, .bool l)], [(4, [.bool false, .str [], .own false 3 []]), (7, [.bool false, .str [], .ext nilP])], []⟩) (fun x => IntKind.i64.wrap (x - 128) = (m : Int)) (fun x hx => ?_) (fun κ hκ => ?_)
        case refine_2 =>
          cases l with
          | true =>
            simp only [go_sem, seval, w64]
            exact hκ _ (wl rfl)
          | false =>
            simp only [go_sem, seval]
            exact hκ _ (wt rfl)
        simp only [go_sem, seval, hx]
        refine ex_cut (fun q : Bool × Nat × Nat => match q.1 with
          | false => ⟨[(0, .str (b :: t)), (1, .int .i64 d), (4, .var 4 0), (5, .int .i64 (0 : Int)), (6, .int .i64 (0 : Int)), (7, .var 7 0), (8, .int .i64 x), (9, .bool l), (10, .int .i64 (q.2.2 : Nat)), (11, .int .i64 (q.2.1 : Nat)), (22, .bool false), (28, .bool false), (34, .bool l), (40, .bool false)], [(4, [.bool false, .str [], .own false 3 []]), (7, [.bool false, .str [], .ext nilP])], []⟩
          | true => ⟨[(0, .str (b :: t)), (1, .int .i64 d), (4, .var 4 0), (7, .var 7 0), (9, .bool l), (10, .int .i64 (q.2.2 : Nat)), (11, .int .i64 (q.2.1 : Nat)), (12, .int .i64 (m - 55 : Nat)), (13, .int .i64 (m - 55 : Nat)), (55, .bool false), (70, .bool false)], [(4, [.bool false, .str [], .own false 3 []]), (7, [.bool false, .str [], .ext nilP])], []⟩)
          (fun q => hdOf (b :: t) = .ok (l, q.2.1, q.2.2) ∧ 1 ≤ q.2.1) (fun q hq => ?_) (fun κ hκ => ?_)
        case refine_2 =>
          rcases Decidable.em (m ≤ 55) with h55 | h55
          · have e3 : decide ((m : Int) > 55) = false := decide_eq_false (by omega)
            have hh : hdOf (b :: t) = .ok (l, 1, m) := by rw [hcons]; unfold hdRest; rw [if_pos h55]
            rw [e3]
            simp only [go_sem, seval]
            exact hκ (false, 1, m) ⟨hh, Nat.le_refl _⟩
          · have e3 : decide ((m : Int) > 55) = true := decide_eq_true (by omega)
            have w55 : IntKind.i64.wrap ((m : Int) - 55) = ((m - 55 : Nat) : Int) := by rw [wi64 (by omega) (by omega)]; omega
            have wf : IntKind.i64.wrap (1 + ((m - 55 : Nat) : Int)) = ((1 + (m - 55) : Nat) : Int) := by rw [wi64 (by omega) (by omega)]; omega
            unfold hdRest at hcons
            rw [if_neg h55] at hcons
            rw [e3]
            rcases Decidable.em (t.length < m - 55) with hlt | hlt
            · rw [if_pos hlt] at hcons
              have hp : parse d (b :: t) = .error 7 := by rw [parse, hcons]
              rw [hp]
              have e4 : decide (((t.length + 1 : Nat) : Int) < ((1 + (m - 55) : Nat) : Int)) = true := decide_eq_true (by omega)
              simp only [go_sem, seval, w55, wf, e4]
              refine ex_ret_any ?_
              refine finTupD (vs' := [.agg [.bool false, .str [], .ext nilP], .int .i64 (0 : Int), .int .i64 (7 : Int)]) ?_ (fins3 (dull_none _ _) _)
              show resOf _ _ [.cell 4 26, .tmp 5, .tmp 6] = _
              simp only [go_sem, seval]
            · rw [if_neg hlt] at hcons
              have e4 : decide (((t.length + 1 : Nat) : Int) < ((1 + (m - 55) : Nat) : Int)) = false := decide_eq_false (by omega)
              obtain ⟨c0, hc0⟩ : ∃ c0, t[0]? = some c0 := ⟨_, List.getElem?_eq_getElem (by omega)⟩
              have h1lt : (1 : Int) < ((t.length + 1 : Nat) : Int) := by omega
              rcases Decidable.em (t.head? = some 0) with hz | hz
              · rw [if_pos hz] at hcons
                have hp : parse d (b :: t) = .error 1 := by rw [parse, hcons]
                rw [hp]
                have hc : c0 = 0 := by rw [List.head?_eq_getElem?, hc0] at hz; exact Option.some.inj hz
                have e5 : ((c0.toNat : Int) == 0) = true := by rw [hc]; rfl
                simp only [go_sem, seval, w55, wf, e4, hc0, h1lt, e5]
                refine ex_ret_any ?_
                refine finTupD (vs' := [.agg [.bool false, .str [], .ext nilP], .int .i64 (0 : Int), .int .i64 (1 : Int)]) ?_ (fins3 (dull_none _ _) _)
                show resOf _ _ [.cell 4 26, .tmp 5, .tmp 6] = _
                simp only [go_sem, seval]
              · rw [if_neg hz] at hcons
                have hc : c0.toNat ≠ 0 := fun e => hz (by rw [List.head?_eq_getElem?, hc0, UInt8.toNat_inj.1 (show c0.toNat = (0 : UInt8).toNat from e)])
                have e5 : ((c0.toNat : Int) == 0) = false := by simpa using hc
                simp only [go_sem, seval, w55, wf, e4, hc0, h1lt, e5]
                refine ex_iter [0, 1, 4, 7, 9, 10, 12, 13] (fun i : Nat => ⟨[(0, .str (b :: t)), (1, .int .i64 d), (4, .var 4 0), (7, .var 7 0), (9, .bool l), (10, .int .i64 (numOf (t.take i) : Nat)), (12, .int .i64 (m - 55 : Nat)), (13, .int .i64 i)], [(4, [.bool false, .str [], .own false 3 []]), (7, [.bool false, .str [], .ext nilP])], []⟩)
                  (fun i => i ≤ m - 55 ∧ numOf (t.take i) ≤ 65536) (fun i => m - 55 - i) 0 ?_ ?_ ?_
                · simp only [ASt.keep, consIf, keepL, keepV, AV.isBot, List.contains_cons, List.contains_nil, Nat.reduceBEq, Bool.or_false, Bool.false_or, Bool.or_true, Bool.true_or, beq_self_eq_true, Bool.false_eq_true, ↓reduceIte, if_false, if_true]
                  rfl
                · exact ⟨Nat.zero_le _, by rw [List.take_zero]; decide⟩
                · rintro r i ⟨hi, hni⟩ next
                  simp only [go_sem, seval]
                  refine ex_br (fun hc1 => ?_) (fun hc1 => ?_)
                  · have hilt : i < m - 55 := by simpa using hc1
                    obtain ⟨c, hc⟩ : ∃ c, t[i]? = some c := ⟨_, List.getElem?_eq_getElem (by omega)⟩
                    have hcl : c.toNat < 256 := c.toNat_lt
                    have hget : (b :: t)[1 + i]? = some c := by rw [Nat.add_comm, List.getElem?_cons_succ]; exact hc
                    have hsn : numOf (t.take (i + 1)) = numOf (t.take i) * 256 + c.toNat := by rw [List.take_add_one, hc]; exact numOf_snoc _ _
                    have w1 : IntKind.i64.wrap ((numOf (t.take i) : Int) * 256) = (numOf (t.take i) : Int) * 256 := wi64 (by omega) (by omega)
                    have w2 : IntKind.i64.wrap (1 + (i : Int)) = ((1 + i : Nat) : Int) := by rw [wi64 (by omega) (by omega)]; omega
                    have w3 : IntKind.i64.wrap (c.toNat : Int) = (c.toNat : Int) := wi64n _ (by omega)
                    have w4 : IntKind.i64.wrap ((numOf (t.take i) : Int) * 256 + (c.toNat : Int)) = (numOf (t.take (i + 1)) : Int) := by rw [wi64 (by omega) (by omega), hsn]; omega
                    simp only [go_sem, seval, w1, w2, w3, w4, Int.toNat_natCast, hget]
                    refine ⟨by omega, ?_⟩
                    refine ex_br (fun hc2 => ?_) (fun hc2 => ?_)
                    · have hbig : numOf (t.take (i + 1)) > 65536 := by simp at hc2; omega
                      have := numOf_take_le t (show i + 1 ≤ m - 55 by omega)
                      rw [if_pos (.inl (by omega))] at hcons
                      have hp : parse d (b :: t) = .error 1 := by rw [parse, hcons]
                      rw [hp]
                      simp only [go_sem, seval]
                      refine ex_ret_any ?_
                      refine finTupD (vs' := [.agg [.bool false, .str [], .ext nilP], .int .i64 (0 : Int), .int .i64 (1 : Int)]) ?_ (fins3 (dull_none _ _) _)
                      show resOf _ _ [.cell 4 26, .tmp 5, .tmp 6] = _
                      simp only [go_sem, seval]
                    · have hsm : numOf (t.take (i + 1)) ≤ 65536 := by simp at hc2; omega
                      simp only [go_sem, seval]
                      refine next (i + 1) _ ⟨by omega, hsm⟩ (by omega) ?_
                      rw [← wi64_nat i (by omega)]
                      simp only [ASt.keep, consIf, keepL, keepV, AV.isBot, List.contains_cons, List.contains_nil, Nat.reduceBEq, Bool.or_false, Bool.false_or, Bool.or_true, Bool.true_or, beq_self_eq_true, Bool.false_eq_true, ↓reduceIte, if_false, if_true]
                  · have hie : i = m - 55 := by simp at hc1; omega
                    subst hie
                    have hirr : decide (((m - 55 : Nat) : Int) < ((m - 55 : Nat) : Int)) = false := decide_eq_false (by omega)
                    rw [hirr]
                    simp only [go_sem, seval]
                    rcases Decidable.em (numOf (t.take (m - 55)) < 56) with h7 | h7
                    · have e7 : decide ((numOf (t.take (m - 55)) : Int) < 56) = true := decide_eq_true (by omega)
                      rw [if_pos (.inr (by omega))] at hcons
                      have hp : parse d (b :: t) = .error 1 := by rw [parse, hcons]
                      rw [hp]
                      simp only [go_sem, seval, e7]
                      refine ex_ret_any ?_
                      refine finTupD (vs' := [.agg [.bool false, .str [], .ext nilP], .int .i64 (0 : Int), .int .i64 (1 : Int)]) ?_ (fins3 (dull_none _ _) _)
                      show resOf _ _ [.cell 4 26, .tmp 5, .tmp 6] = _
                      simp only [go_sem, seval]
                    · have e7 : decide ((numOf (t.take (m - 55)) : Int) < 56) = false := decide_eq_false (by omega)
                      rw [if_neg (by omega)] at hcons
                      simp only [go_sem, seval, e7, wf]
                      exact hκ (true, 1 + (m - 55), numOf (t.take (m - 55))) ⟨hcons, Nat.le_add_right 1 _⟩
        obtain ⟨o, f, n⟩ := q
        obtain ⟨hh, hf⟩ := hq
        simp only at hh hf
        obtain ⟨b1, b2, b3⟩ := hd_bounds hh
        rw [parse_body hh]
        have wfn : IntKind.i64.wrap ((f : Int) + (n : Int)) = ((f + n : Nat) : Int) := by rw [wi64 (by omega) (by omega)]; omega
        have hsub : f + n - f = n := by omega
        unfold bodyR
        rw [List.length_cons]
        cases o
        all_goals
          rcases Decidable.em (f + n > 65536) with h2 | h2
          · rw [if_pos h2]
            have e3 : decide (((f + n : Nat) : Int) > 65536) = true := decide_eq_true (by omega)
            simp only [go_sem, seval, wfn, e3]
            refine finTupD (vs' := [.agg [.bool false, .str [], .ext nilP], .int .i64 (0 : Int), .int .i64 (1 : Int)]) ?_ (fins3 (dull_none _ _) _)
            show resOf _ _ [.cell 4 26, .tmp 5, .tmp 6] = _
            simp only [go_sem, seval]
          rw [if_neg h2]
          have e3 : decide (((f + n : Nat) : Int) > 65536) = false := decide_eq_false (by omega)
          rcases Decidable.em (t.length + 1 < f + n) with h3 | h3
          · rw [if_pos h3]
            have e4 : decide (((t.length + 1 : Nat) : Int) < ((f + n : Nat) : Int)) = true := decide_eq_true (by omega)
            simp only [go_sem, seval, wfn, e3, e4]
            refine finTupD (vs' := [.agg [.bool false, .str [], .ext nilP], .int .i64 (0 : Int), .int .i64 (7 : Int)]) ?_ (fins3 (dull_none _ _) _)
            show resOf _ _ [.cell 4 26, .tmp 5, .tmp 6] = _
            simp only [go_sem, seval]
          rw [if_neg h3]
          have e4 : decide (((t.length + 1 : Nat) : Int) < ((f + n : Nat) : Int)) = false := decide_eq_false (by omega)
          have hlen : (((b :: t).drop f).take n).length = n := by rw [List.length_take, List.length_drop, List.length_cons]; omega
          obtain ⟨body, hbody⟩ : ∃ body, body = ((b :: t).drop f).take n := ⟨_, rfl⟩
          rw [← hbody] at hlen ⊢
          cases l
          case' false =>
            rw [if_pos rfl]
            simp only [go_sem, seval, wfn, e3, e4, Int.toNat_natCast, hsub]
            refine ⟨by omega, ?_⟩
            rw [← hbody]
            rcases Decidable.em (n = 1) with hn1 | hn1
            · subst hn1
              obtain ⟨c, hc⟩ : ∃ c, body = [c] := List.length_eq_one_iff.1 hlen
              subst hc
              have ha : aloneB [c] = decide (c.toNat < 128) := rfl
              have e8 : decide ((c.toNat : Int) < 128) = decide (c.toNat < 128) := decide_congr (by omega)
              rw [ha]
              cases h8 : decide (c.toNat < 128) with
              | true =>
                rw [h8] at e8
                rw [if_pos ⟨hf, rfl⟩]
                simp only [go_sem, seval, e8, Int.cast_ofNat_Int]
                refine finTupD (vs' := [.agg [.bool false, .str [], .ext nilP], .int .i64 (0 : Int), .int .i64 (1 : Int)]) ?_ (fins3 (dull_none _ _) _)
                show resOf _ _ [.cell 4 26, .tmp 5, .tmp 6] = _
                simp only [go_sem, seval]
              | false =>
                rw [h8] at e8
                rw [if_neg (fun h => by cases h.2)]
                simp only [go_sem, seval, e8, wfn, Int.cast_ofNat_Int]
                refine finTupD (vs' := [.agg [.bool false, .str [c], .ext nilP], .int .i64 ((f + 1 : Nat) : Int), .int .i64 (0 : Int)]) ?_ (fins3 (dull_none _ _) _)
                show resOf _ _ [.cell 4 26, .tmp 5, .tmp 6] = _
                have wf1 : IntKind.i64.wrap ((f : Int) + 1) = ((f + 1 : Nat) : Int) := wfn
                simp only [go_sem, seval, wf1]
            · have e8 : ((n : Int) == 1) = false := by simpa using (by omega : ¬ (n : Int) = 1)
              have ha : aloneB body = false := by
                cases hq : aloneB body with
                | false => rfl
                | true => have := alone_len hq; omega
              rw [ha, if_neg (fun h => by cases h.2)]
              simp only [go_sem, seval, e8, wfn]
              refine finTupD (vs' := [.agg [.bool false, .str body, .ext nilP], .int .i64 ((f + n : Nat) : Int), .int .i64 (0 : Int)]) ?_ (fins3 (dull_none _ _) _)
              show resOf _ _ [.cell 4 26, .tmp 5, .tmp 6] = _
              simp only [go_sem, seval]
          case' true =>
            rw [if_neg (by simp)]
            simp only [go_sem, seval, wfn, e3, e4, Int.toNat_natCast, hsub, wd]
            refine ⟨by omega, ?_⟩
            rw [← hbody]
            rcases Decidable.em (16 ≤ d) with h9 | h9
            · rw [if_pos h9]
              have e9 : decide (((d + 1 : Nat) : Int) > 16) = true := decide_eq_true (by omega)
              simp only [go_sem, seval, e9]
              refine finTupD (vs' := [.agg [.bool false, .str [], .ext nilP], .int .i64 (0 : Int), .int .i64 (1 : Int)]) ?_ (fins3 (dull_none _ _) _)
              show resOf _ _ [.cell 4 26, .tmp 5, .tmp 6] = _
              simp only [go_sem, seval]
            rw [if_neg h9]
            have e9 : decide (((d + 1 : Nat) : Int) > 16) = false := decide_eq_false (by omega)
            simp only [go_sem, seval, e9]
            refine ex_iter [1, 4, 7, 10, 11, 14, 15] (fun q : List ItemD × List UInt8 => ⟨[(1, .int .i64 d), (4, .var 4 0), (7, .var 7 0), (10, .int .i64 n), (11, .int .i64 f), (14, .str q.2), (15, .var 15 0)], [(4, [.bool false, .str [], .own false 3 []]), (7, [.bool false, .str [], .ext nilP]), (15, [.bool true, .str [], repI 3 q.1.length (q.1.map ItemD.av)])], []⟩)
              (fun q => q.1.length + q.2.length ≤ n ∧ itemsP (d + 1) body = (itemsP (d + 1) q.2).map (q.1 ++ ·)) (fun q => q.2.length) ([], body) ?_ ?_ ?_
            · simp only [ASt.keep, consIf, keepL, keepV, AV.isBot, List.contains_cons, List.contains_nil, Nat.reduceBEq, Bool.or_false, Bool.false_or, Bool.or_true, Bool.true_or, beq_self_eq_true, Bool.false_eq_true, ↓reduceIte, if_false, if_true]
              rfl
            · refine ⟨by simp only [List.length_nil]; omega, ?_⟩
              cases itemsP (d + 1) body <;> rfl
            · rintro r ⟨xs, rest⟩ ⟨hq1, hq2⟩ next
              simp only at hq1 hq2
              simp only [go_sem, seval]
              refine ex_br (fun hc => ?_) (fun hc => ?_)
              · have hne : rest ≠ [] := by rintro rfl; simp at hc
                have hone := itemsP_cons (d := d + 1) hne
                have hcall := ih rest.length (by omega) rest (d + 1) (Nat.le_refl _) (by omega) (by omega)
                simp only [go_sem, seval, wd]
                cases ho : parse (d + 1) rest with
                | error e =>
                  rw [ho] at hcall hone
                  have he0 : ((e : Int) != 0) = true := by rcases parse_errD ho with rfl | rfl <;> rfl
                  have hnone : itemsP (d + 1) body = none := by rw [hq2, hone]; rfl
                  rw [hnone]
                  unfold resP at hcall
                  refine ex_call (by exact hcall) ?_
                  simp only [go_sem, seval, he0]
                  refine finTupD (vs' := [.agg [.bool false, .str [], .ext nilP], .int .i64 (0 : Int), .int .i64 (1 : Int)]) ?_ (fins3 (dull_none _ _) _)
                  show resOf _ _ [.cell 4 26, .tmp 5, .tmp 6] = _
                  simp only [go_sem, seval]
                | ok r2 =>
                  obtain ⟨x, k⟩ := r2
                  rw [ho] at hcall hone
                  have hpo := parse_ok ho
                  have hp1 := hpo.pos
                  have hp2 := hpo.le
                  simp only at hone
                  rw [if_pos (by omega)] at hone
                  unfold resP at hcall
                  refine ex_call (by exact hcall) ?_
                  have hinv : (xs ++ [x]).length + (rest.drop k).length ≤ n ∧ itemsP (d + 1) body = (itemsP (d + 1) (rest.drop k)).map ((xs ++ [x]) ++ ·) := by
                    refine ⟨by simp only [List.length_append, List.length_singleton, List.length_drop]; omega, ?_⟩
                    rw [hq2, hone, Option.map_map]
                    congr 1
                    funext ys
                    simp
                  have hmu : (rest.drop k).length < rest.length := by rw [List.length_drop]; omega
                  cases xs with
                  | nil =>
                    simp only [go_sem, seval, repI, Int.toNat_natCast]
                    repeat with_reducible refine And.intro (by first | omega | (simp only [List.length_cons, List.length_append, List.length_nil, List.length_map, List.length_take, List.length_drop, List.length_set]; omega)) ?_
                    refine next ([] ++ [x], rest.drop k) _ hinv hmu ?_
                    simp only [ASt.keep, consIf, keepL, keepV, AV.isBot, List.contains_cons, List.contains_nil, Nat.reduceBEq, Bool.or_false, Bool.false_or, Bool.or_true, Bool.true_or, beq_self_eq_true, Bool.false_eq_true, ↓reduceIte, if_false, if_true]
                    simp only [List.nil_append, List.map_cons, List.map_nil, ItemD.av_eq, ItemD.cells, List.length_singleton, repI]
                    rw [List.take_of_length_le (by simp)]
                  | cons y ys =>
                    have hyl : ys.length + 1 + rest.length ≤ n := hq1
                    simp only [go_sem, seval, repI, List.length_map, Int.toNat_natCast]
                    repeat with_reducible refine And.intro (by first | omega | (simp only [List.length_cons, List.length_append, List.length_nil, List.length_map, List.length_take, List.length_drop, List.length_set]; omega)) ?_
                    refine next ((y :: ys) ++ [x], rest.drop k) _ hinv hmu ?_
                    simp only [ASt.keep, consIf, keepL, keepV, AV.isBot, List.contains_cons, List.contains_nil, Nat.reduceBEq, Bool.or_false, Bool.false_or, Bool.or_true, Bool.true_or, beq_self_eq_true, Bool.false_eq_true, ↓reduceIte, if_false, if_true]
                    simp only [List.cons_append, List.map_append, List.map_cons, List.map_nil, ItemD.av_eq, ItemD.cells, List.length_cons, repI]
                    rw [List.take_of_length_le (by simp)]
              · have hnil : rest = [] := by
                  cases rest with
                  | nil => rfl
                  | cons _ _ => simp at hc
                subst hnil
                have hsome : itemsP (d + 1) body = some xs := by rw [hq2, itemsP_nil]; simp
                rw [hsome]
                cases xs with
                | nil =>
                  simp only [go_sem, seval, repI, wfn]
                  refine finTupD (vs' := [.agg [.bool true, .str [], .ext nilP], .int .i64 ((f + n : Nat) : Int), .int .i64 (0 : Int)]) ?_ (fins3 (dull_none _ _) _)
                  show resOf _ _ [.cell 4 26, .tmp 5, .tmp 6] = _
                  simp only [go_sem, seval]
                | cons y ys =>
                  simp only [go_sem, seval, repI, wfn]
                  refine finTupD (vs' := [.agg [.bool true, .str [], .sl true 3 ((y :: ys).map ItemD.av)], .int .i64 ((f + n : Nat) : Int), .int .i64 (0 : Int)]) ?_ (fins3 (dull_item _ _ _ _) _)
                  show resOf _ _ [.cell 4 26, .tmp 5, .tmp 6] = _
                  simp only [go_sem, seval]
end Go.Proofs.Ytmngjlgeojbghaa.VA
end
section
namespace Go.Proofs.Ytmngjlgeojbghaa.VA
set_option maxRecDepth 10000
set_option maxHeartbeats 4000000

theorem c_ref4_Take (s : List UInt8) (hs : s.length ≤ 16777216) : Contract Try.prog 12 [.str s] (resP (parse 0 s)) := by
  have h := c_take s.length s 0 (Nat.le_refl _) hs (by omega)
  cases hp : parse 0 s with
  | error e =>
    rw [hp] at h
    unfold resP at h
    refine contract_of (C := cf 10 [0, 2, 3, 4] (fun _ => [])) (cf_ok _ _ _) (fn := Try.f12) Try.func12 (by kernel_rfl) rfl (by kernel_rfl) (by simp [cf]) (plain1 (.str _)) (by decide) (cellsOk (by kernel_rfl)) ?_
    simp only [go_sem, ↓reduceIte, Nat.reduceLT, Nat.reduceLeDiff, Nat.reduceAdd, Nat.reduceSub, Nat.reduceMul, Nat.reduceEqDiff, Nat.reduceBEq, Nat.reduceMod, Nat.reduceDiv, Int.reduceToNat, reduceCtorEq, Int.reduceLT, Int.reduceLE, Int.reduceGT, Int.reduceGE, Int.reduceAdd, Int.reduceSub, Int.reduceMul, Int.reduceNeg, Int.reduceEq, Int.reduceNe, Int.reduceBNe, Int.reduceBEq, Int.reduceDiv]
    refine ex_call (by exact h) ?_
    simp only [go_sem, ↓reduceIte, Nat.reduceLT, Nat.reduceLeDiff, Nat.reduceAdd, Nat.reduceSub, Nat.reduceMul, Nat.reduceEqDiff, Nat.reduceBEq, Nat.reduceMod, Nat.reduceDiv, Int.reduceToNat, reduceCtorEq, Int.reduceLT, Int.reduceLE, Int.reduceGT, Int.reduceGE, Int.reduceAdd, Int.reduceSub, Int.reduceMul, Int.reduceNeg, Int.reduceEq, Int.reduceNe, Int.reduceBNe, Int.reduceBEq, Int.reduceDiv]
    refine finTup ?_
    show resOf _ _ [.cell 2 26, .tmp 3, .tmp 4] = _
    simp only [go_sem, ↓reduceIte, Nat.reduceLT, Nat.reduceLeDiff, Nat.reduceAdd, Nat.reduceSub, Nat.reduceMul, Nat.reduceEqDiff, Nat.reduceBEq, Nat.reduceMod, Nat.reduceDiv, Int.reduceToNat, reduceCtorEq, Int.reduceLT, Int.reduceLE, Int.reduceGT, Int.reduceGE, Int.reduceAdd, Int.reduceSub, Int.reduceMul, Int.reduceNeg, Int.reduceEq, Int.reduceNe, Int.reduceBNe, Int.reduceBEq, Int.reduceDiv]
  | ok r =>
    obtain ⟨it, k⟩ := r
    rw [hp] at h
    unfold resP at h
    refine contract_of (C := cf 10 [0, 2, 3, 4] (fun _ => [])) (cf_ok _ _ _) (fn := Try.f12) Try.func12 (by kernel_rfl) rfl (by kernel_rfl) (by simp [cf]) (plain1 (.str _)) (by decide) (cellsOk (by kernel_rfl)) ?_
    simp only [go_sem, ↓reduceIte, Nat.reduceLT, Nat.reduceLeDiff, Nat.reduceAdd, Nat.reduceSub, Nat.reduceMul, Nat.reduceEqDiff, Nat.reduceBEq, Nat.reduceMod, Nat.reduceDiv, Int.reduceToNat, reduceCtorEq, Int.reduceLT, Int.reduceLE, Int.reduceGT, Int.reduceGE, Int.reduceAdd, Int.reduceSub, Int.reduceMul, Int.reduceNeg, Int.reduceEq, Int.reduceNe, Int.reduceBNe, Int.reduceBEq, Int.reduceDiv]
    refine ex_call (by exact h) ?_
    simp only [go_sem, ↓reduceIte, Nat.reduceLT, Nat.reduceLeDiff, Nat.reduceAdd, Nat.reduceSub, Nat.reduceMul, Nat.reduceEqDiff, Nat.reduceBEq, Nat.reduceMod, Nat.reduceDiv, Int.reduceToNat, reduceCtorEq, Int.reduceLT, Int.reduceLE, Int.reduceGT, Int.reduceGE, Int.reduceAdd, Int.reduceSub, Int.reduceMul, Int.reduceNeg, Int.reduceEq, Int.reduceNe, Int.reduceBNe, Int.reduceBEq, Int.reduceDiv]
    refine finTup ?_
    show resOf _ _ [.cell 2 26, .tmp 3, .tmp 4] = _
    simp only [go_sem, ↓reduceIte, Nat.reduceLT, Nat.reduceLeDiff, Nat.reduceAdd, Nat.reduceSub, Nat.reduceMul, Nat.reduceEqDiff, Nat.reduceBEq, Nat.reduceMod, Nat.reduceDiv, Int.reduceToNat, reduceCtorEq, Int.reduceLT, Int.reduceLE, Int.reduceGT, Int.reduceGE, Int.reduceAdd, Int.reduceSub, Int.reduceMul, Int.reduceNeg, Int.reduceEq, Int.reduceNe, Int.reduceBNe, Int.reduceBEq, Int.reduceDiv]
theorem parse_itok {s : List UInt8} {it : ItemD} {k : Nat} (hs : s.length ≤ 4194304) (h : parse 0 s = .ok (it, k)) : it.ok := by
  have := (parse_ok h).wt
  have := (parse_ok h).le
  unfold ItemD.ok; omega
end Go.Proofs.Ytmngjlgeojbghaa.VA
end
