/- The laws on items: what they share. -/
import Derived.Test.YtjfnmlheehbojaaCAsk4
import Derived.Test.YtjfnmlheehbojaaCLaid
import Derived.Test.YtjfnmlheehbojaaCCut
namespace Go.Proofs.Ytjfnmlheehbojaa.VA
set_option maxRecDepth 10000
set_option linter.unusedSimpArgs false
set_option linter.unusedVariables false

theorem heavy_no {it : ItemD} {s : List UInt8} (h : heavyI it s = false) : it.wt ≤ 70000 ∧ s.length ≤ 70000 := by
  unfold heavyI at h
  simp only [Bool.or_eq_false_iff, decide_eq_false_iff_not] at h
  have := wtOf_full it (by omega)
  omega
abbrev itA (it : ItemD) : AV := .agg [.bool it.list, .str it.text, .sl false 3 (it.items.map ItemD.av)]
theorem itA_av (it : ItemD) : it.av = itA it := it.av_eq
theorem c_EqI (a b : ItemD) (ha : a.ok) (hb : b.ok) : Contract Try.prog 45 [.agg [.bool a.list, .str a.text, .sl false 3 (a.items.map ItemD.av)], .agg [.bool b.list, .str b.text, .sl false 3 (b.items.map ItemD.av)]] (.bool (decide (a = b))) := by
  have h := c_EqItem a b ha hb
  rw [itA_av a, itA_av b] at h
  exact h
theorem c_CopyI (a : ItemD) (ha : a.ok) : Contract Try.prog 40 [.agg [.bool a.list, .str a.text, .sl false 3 (a.items.map ItemD.av)]] (.agg [.bool a.list, .str a.text, .sl false 3 (a.items.map ItemD.av)]) := by
  have h := c_CopyItem a ha
  rw [itA_av a] at h
  exact h
theorem c_BytesI (a : ItemD) (ha : a.ok) : Contract Try.prog 41 [.agg [.bool a.list, .str a.text, .sl false 3 (a.items.map ItemD.av)]] (.tup [.str (bytesI a), .int .i64 (if okI 0 a = true then 0 else 1)]) := by
  have h := c_item_Bytes a ha
  rw [itA_av a] at h
  exact h
theorem c_CheckI (a : ItemD) (ha : a.ok) : Contract Try.prog 44 [.agg [.bool a.list, .str a.text, .sl false 3 (a.items.map ItemD.av)]] (.int .i64 (if okI 0 a = true then 0 else 1)) := by
  have h := c_item_Check a ha
  rw [itA_av a] at h
  exact h
theorem c_refI (a : ItemD) (ha : a.ok) : Contract Try.prog 42 [.agg [.bool a.list, .str a.text, .sl false 3 (a.items.map ItemD.av)]] (.tup [.str (bytesI a), .bool (okI 0 a)]) := by
  have h := c_ref4_Item a ha
  rw [itA_av a] at h
  exact h
theorem nil_ok : (ItemD.mk false [] []).ok := by unfold ItemD.ok; decide +kernel
theorem bytesI_le (a : ItemD) : (bytesI a).length ≤ 65536 := by
  unfold bytesI
  split
  · rename_i h
    cases hl : a.list with
    | false => rw [okI_text 0 hl, Bool.and_eq_true, decide_eq_true_eq] at h; exact h.2
    | true => rw [okI_list 0 hl, Bool.and_eq_true, decide_eq_true_eq] at h; exact h.2
  · simp
end Go.Proofs.Ytjfnmlheehbojaa.VA
