/- Transactions among the data that a law is asked with. -/
import Derived.Test.YtgdopacmdjcgfaaCTx
namespace Go.Proofs.Ytgdopacmdjcgfaa.VA
set_option linter.unusedVariables false
set_option linter.unusedSimpArgs false

theorem wf_i64 {n : Int} (h : (Lit.int .i64 n).wf = true) : -9223372036854775808 ≤ n ∧ n ≤ 9223372036854775807 := by
  simp only [Lit.wf, IntKind.min, IntKind.max, IntKind.signed, IntKind.bits, Bool.and_eq_true, decide_eq_true_eq, if_true, Bool.false_eq_true, if_false] at h
  omega
theorem wf_u64 {n : Int} (h : (Lit.int .u64 n).wf = true) : 0 ≤ n ∧ n < 18446744073709551616 := by
  simp only [Lit.wf, IntKind.min, IntKind.max, IntKind.signed, IntKind.bits, Bool.and_eq_true, decide_eq_true_eq, if_true, Bool.false_eq_true, if_false] at h
  omega
theorem ty_u {x : AV} (h : Ty ti 29 x) : ∃ n : Nat, x = u n ∧ n < U := by
  obtain ⟨xs, rfl, hn, hall⟩ := ty_arr (n := 4) (e := 27) (esz := 1) (by rw [ti29]) h
  match xs, hn with
  | [x0, x1, x2, x3], _ =>
    obtain ⟨a, rfl, ha⟩ := ty_int (k := .u64) (by rw [ti27]) (hall x0 (by simp))
    obtain ⟨b, rfl, hb⟩ := ty_int (k := .u64) (by rw [ti27]) (hall x1 (by simp))
    obtain ⟨c, rfl, hc⟩ := ty_int (k := .u64) (by rw [ti27]) (hall x2 (by simp))
    obtain ⟨d, rfl, hd⟩ := ty_int (k := .u64) (by rw [ti27]) (hall x3 (by simp))
    have ha := wf_u64 ha
    have hb := wf_u64 hb
    have hc := wf_u64 hc
    have hd := wf_u64 hd
    obtain ⟨a, rfl⟩ := Int.eq_ofNat_of_zero_le ha.1
    obtain ⟨b, rfl⟩ := Int.eq_ofNat_of_zero_le hb.1
    obtain ⟨c, rfl⟩ := Int.eq_ofNat_of_zero_le hc.1
    obtain ⟨d, rfl⟩ := Int.eq_ofNat_of_zero_le hd.1
    refine ⟨a + 18446744073709551616 * b + 340282366920938463463374607431768211456 * c + 6277101735386680763835789423207666416102355444464034512896 * d, ?_, ?_⟩
    · rw [u_eq (a := a) (b := b) (c := c) (d := d) (by omega) (by omega) (by omega) (by omega) rfl]
      rfl
    · unfold U; omega
theorem ty_tx {x : AV} (h : Ty ti 41 x) : ∃ t : TxD, x = t.av ∧ t.ok := by
  obtain ⟨xs, rfl, hn, hall⟩ := ty_struct (fs := [(0, 1, 3), (1, 1, 3), (2, 4, 29), (6, 4, 29), (10, 4, 29), (14, 4, 29), (18, 1, 3), (19, 1, 38), (20, 1, 39)]) (by rw [ti41]) h
  match xs, hn with
  | [x0, x1, x2, x3, x4, x5, x6, x7, x8], _ =>
    obtain ⟨f, rfl, h0⟩ := ty_int (k := .i64) (by rw [ti3]) (hall 0 _ _ _ x0 rfl rfl)
    obtain ⟨n, rfl, h1⟩ := ty_int (k := .i64) (by rw [ti3]) (hall 1 _ _ _ x1 rfl rfl)
    obtain ⟨p, rfl, h2⟩ := ty_u (hall 2 _ _ _ x2 rfl rfl)
    obtain ⟨c, rfl, h3⟩ := ty_u (hall 3 _ _ _ x3 rfl rfl)
    obtain ⟨b, rfl, h4⟩ := ty_u (hall 4 _ _ _ x4 rfl rfl)
    obtain ⟨v, rfl, h5⟩ := ty_u (hall 5 _ _ _ x5 rfl rfl)
    obtain ⟨g, rfl, h6⟩ := ty_int (k := .i64) (by rw [ti3]) (hall 6 _ _ _ x6 rfl rfl)
    obtain ⟨hs, rfl, a7, b7⟩ := ty_ints (e := 27) (eb := 8) (k := .u64) (by rw [ti38]) (by rw [ti27]) (hall 7 _ _ _ x7 rfl rfl)
    obtain ⟨bs, rfl, a8, b8⟩ := ty_strs (e := 9) (eb := 16) (by rw [ti39]) (by rw [ti9]) (hall 8 _ _ _ x8 rfl rfl)
    exact ⟨⟨f, n, p, c, b, v, g, hs, bs⟩, rfl, wf_i64 h0, wf_i64 h1, wf_i64 h6, h2, h3, h4, h5, a7, a8, b8⟩
theorem ty_txs {x : AV} (h : Ty ti 25 x) : ∃ l : List TxD, x = .sl false 21 (l.map TxD.av) ∧ l.length * 200 ≤ reachBytes ∧ ∀ a ∈ l, a.ok := by
  obtain ⟨es, rfl, hs, hall⟩ := ty_slice (e := 41) (esz := 21) (eb := 200) (by rw [ti25]) h
  obtain ⟨l, rfl, hl⟩ := ty_map (f := TxD.av) (fun y hy => ty_tx hy) es hall
  exact ⟨l, rfl, by simpa using hs, hl⟩
theorem plain_txs (l : List TxD) : Plain (.sl false 21 (l.map TxD.av)) := .sl 21 _ fun c hc => by
  obtain ⟨s, _, rfl⟩ := List.mem_map.1 hc
  exact s.plain
end Go.Proofs.Ytgdopacmdjcgfaa.VA
