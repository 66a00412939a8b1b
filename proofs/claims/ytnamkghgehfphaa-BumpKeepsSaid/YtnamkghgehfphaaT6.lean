/- Where paths come together behind a choice, some of them having returned before. Items out of bytes: the page's own. Items out of bytes: the page's answer at the top. Transactions as items: plain laws. Items' bytes: how long, whether they may be. Functions that hand values to a loop: laws for their walks. Each: a function that hands an item's items to a loop. Items' bytes: the page's own; what is laid. Items' bytes: what is laid. Transactions as bytes. Transactions as bytes: the page's own; IDs. Which of two is kept. Transactions among the data that a law is asked with. Transactions: comparisons. Questions of the laws on bumps. The page's difference. BumpKeeps: the law's function answers true. -/
import Derived.Test.YtnamkghgehfphaaT1
import Derived.Test.YtnamkghgehfphaaT2
import Derived.Test.YtnamkghgehfphaaT3
import Derived.Test.YtnamkghgehfphaaT4
import Derived.Test.YtnamkghgehfphaaT5
import Derived.TacticsIn
import Derived.LoopNIn
section
/- Where paths come together behind a choice, some of them having returned before. -/
namespace Go.Proofs.Ytnamkghgehfphaa.VA
theorem ex_cut {α : Type} {C : Cfg} {Q : AEx → ASt → Prop} {k : List Todo} {t : Todo} {σ : ASt} (st : α → ASt) (p : α → Prop) (h2 : ∀ a, p a → exec C Q k .normal (st a))
    (h1 : ∀ κ : List Todo, (∀ a, p a → exec C Q κ .normal (st a)) → exec C Q (t :: κ) .normal σ) : exec C Q (t :: k) .normal σ := h1 k h2
theorem ex_cut2 {α : Type} {C : Cfg} {Q : AEx → ASt → Prop} {k : List Todo} {t u : Todo} {σ : ASt} (st : α → ASt) (p : α → Prop) (h2 : ∀ a, p a → exec C Q k .normal (st a))
    (h1 : ∀ κ : List Todo, (∀ a, p a → exec C Q κ .normal (st a)) → exec C Q (t :: u :: κ) .normal σ) : exec C Q (t :: u :: k) .normal σ := h1 k h2
theorem ex_ret_any {C : Cfg} {Q : AEx → ASt → Prop} : ∀ {k : List Todo} {σ : ASt}, Q .ret σ → exec C Q k .ret σ
  | [], _, h => h
  | t :: k, σ, h => by
    have ih := ex_ret_any (C := C) (k := k) h
    cases t <;> first | exact ih | (rename_i b _ _; cases b <;> exact ih)
end Go.Proofs.Ytnamkghgehfphaa.VA
end
section
/- Items out of bytes: the page's own. -/
namespace Go.Proofs.Ytnamkghgehfphaa.VA
set_option maxRecDepth 10000
set_option linter.unusedSimpArgs false
set_option linter.unusedVariables false
set_option maxHeartbeats 16000000

def bodyR (d : Nat) (s : List UInt8) (l : Bool) (f n : Nat) : Except Nat (ItemD × Nat) :=
  if f + n > 65536 then .error 1
  else if s.length < f + n then .error 7
  else if l = false then (if 0 < f ∧ aloneB ((s.drop f).take n) = true then .error 1 else .ok (.mk false ((s.drop f).take n) [], f + n))
  else if 16 ≤ d then .error 1
  else match itemsP (d + 1) ((s.drop f).take n) with
    | some xs => .ok (.mk true [] xs, f + n)
    | none => .error 1
theorem parse_body {d : Nat} {s : List UInt8} {l : Bool} {f n : Nat} (hh : hdOf s = .ok (l, f, n)) : parse d s = bodyR d s l f n := by
  obtain ⟨b1, b2, b3⟩ := hd_bounds hh
  rw [parse, hh]
  unfold bodyR
  simp only
  split
  · rfl
  · split
    · rfl
    · split
      · rfl
      · split
        · rfl
        · rename_i h1 h2 h3 h4
          have hl : l = true := by cases l <;> simp_all
          have := b3 hl
          rw [dif_pos (by rw [List.length_take, List.length_drop]; omega)]
          cases itemsP (d + 1) ((s.drop f).take n) <;> rfl
theorem parse_errD {d : Nat} {s : List UInt8} {e : Nat} (h : parse d s = .error e) : e = 7 ∨ e = 1 := by
  cases hh : hdOf s with
  | error e2 => rw [parse, hh] at h; cases h; exact hd_err hh
  | ok r2 =>
    obtain ⟨l2, f2, n2⟩ := r2
    rw [parse_body hh] at h
    unfold bodyR at h
    repeat' (split at h)
    all_goals first | (cases h; omega) | (cases h; done)
theorem numOf_take_le (t : List UInt8) {i k : Nat} (h : i ≤ k) : numOf (t.take i) ≤ numOf (t.take k) := by
  have e : t.take k = t.take i ++ (t.drop i).take (k - i) := by
    rw [← List.take_add]; congr 1; omega
  rw [e, numOf_append]
  have : 0 < 256 ^ ((t.drop i).take (k - i)).length := Nat.pow_pos (by decide)
  have := Nat.le_mul_of_pos_right (numOf (t.take i)) this
  omega
end Go.Proofs.Ytnamkghgehfphaa.VA
end
section
/- Items out of bytes: the page's answer at the top. -/
namespace Go.Proofs.Ytnamkghgehfphaa.VA
set_option maxRecDepth 10000
set_option linter.unusedSimpArgs false
set_option linter.unusedVariables false
set_option maxHeartbeats 4000000

theorem parse_itok {s : List UInt8} {it : ItemD} {k : Nat} (hs : s.length ≤ 4194304) (h : parse 0 s = .ok (it, k)) : it.ok := by
  have := (parse_ok h).wt
  have := (parse_ok h).le
  unfold ItemD.ok; omega
end Go.Proofs.Ytnamkghgehfphaa.VA
end
section
/- Transactions as items: plain laws. -/
namespace Go.Proofs.Ytnamkghgehfphaa.VA
set_option maxRecDepth 10000
set_option linter.unusedSimpArgs false
set_option linter.unusedVariables false

abbrev leaf (s : List UInt8) : ItemD := .mk false s []
abbrev listI (xs : List ItemD) : ItemD := .mk true [] xs
abbrev numI (n : Nat) : ItemD := leaf (bytesOf n)
def hashI (t : TxD) : ItemD := listI (t.hashes.map fun h => leaf (textOf h))
def blobI (t : TxD) : ItemD := listI (t.blobs.map leaf)
def txItem (t : TxD) : ItemD := listI [numI t.frm.toNat, numI t.nonce.toNat, numI t.tip, numI t.cap, numI t.bcap, numI t.value, numI t.gas.toNat, hashI t, blobI t]
def txRaw (t : TxD) : List UInt8 := rawOf (txItem t)
theorem leaf_raw {s : List UInt8} (h : s.length < 1099511627776) : (rawOf (leaf s)).length ≤ s.length + 6 := by
  rw [rawOf_text rfl]
  have := ahead_le h
  split
  · exact Nat.le_add_right _ _
  · rw [List.length_append, headB_len]
    show aheadN s.length + s.length ≤ _
    omega
theorem leaf_short {s : List UInt8} (h : s.length ≤ 55) : (rawOf (leaf s)).length ≤ s.length + 1 := by
  rw [rawOf_text rfl]
  split
  · exact Nat.le_add_right _ _
  · rw [List.length_append, headB_len]
    show aheadN s.length + s.length ≤ _
    unfold aheadN
    rw [if_pos h]; omega
theorem leaf_may (d : Nat) {s : List UInt8} (h : s.length ≤ 65000) : okI d (leaf s) = true := by
  rw [okI_text d rfl, Bool.and_eq_true, decide_eq_true_eq]
  have := leaf_raw (s := s) (by omega)
  exact ⟨rfl, by omega⟩
theorem raws_bound {xs : List ItemD} {m : Nat} (h : ∀ x ∈ xs, (rawOf x).length ≤ m) : (raws xs).length ≤ m * xs.length := by
  induction xs with
  | nil => rw [raws_nil]; simp
  | cons x xs ih =>
    rw [raws_cons, List.length_append, List.length_cons, Nat.mul_add, Nat.mul_one]
    have := h x (by simp)
    have := ih fun y hy => h y (List.mem_cons_of_mem _ hy)
    omega
theorem list_raw (xs : List ItemD) : (rawOf (listI xs)).length = aheadN (raws xs).length + (raws xs).length := by
  rw [rawOf_list rfl, List.length_append, headB_len]; rfl
theorem list_may {d : Nat} {xs : List ItemD} (hd : d < 16) (h : ∀ x ∈ xs, okI (d + 1) x = true) (hl : (raws xs).length ≤ 65000) : okI d (listI xs) = true := by
  rw [okI_list d rfl]
  have := list_raw xs
  have := ahead_le (n := (raws xs).length) (by omega)
  simp only [Bool.and_eq_true, decide_eq_true_eq]
  exact ⟨⟨⟨rfl, hd⟩, okIs_all h⟩, by omega⟩
theorem byteLen_U {n : Nat} (h : n < U) : byteLen n ≤ 32 := (byteLen_le n 32).2 (by
  have : (256 : Nat) ^ 32 = U := by unfold U; decide
  omega)
theorem unlike_no : ∀ {hs : List Int} {bs : List (List UInt8)}, hs.length = bs.length → unlike hs bs = false → hs = bs.map hashOf
  | [], [], _, _ => rfl
  | h :: hs, b :: bs, hl, hu => by
    simp only [unlike, Bool.or_eq_false_iff, bne_eq_false_iff_eq] at hu
    rw [List.map_cons, hu.1, ← unlike_no (by simpa using hl) hu.2]
  | [], _ :: _, hl, _ => by simp at hl
  | _ :: _, [], hl, _ => by simp at hl
theorem fits_all {hs : List Int} {bs : List (List UInt8)} (h : fitsOf hs bs = 0) : hs = bs.map hashOf ∧ (∀ b ∈ bs, b.length ≤ 64) ∧ 1 ≤ bs.length ∧ bs.length ≤ 4 := by
  have hl := fits_len h
  unfold fitsOf at h
  cases hb : badFit hs bs with
  | true => rw [hb] at h; cases h
  | false =>
    rw [hb] at h
    cases ht : tooLong bs with
    | true => rw [ht] at h; cases h
    | false =>
      rw [ht] at h
      cases hu : unlike hs bs with
      | true => rw [hu] at h; cases h
      | false =>
        refine ⟨unlike_no hl.2.2 hu, fun b hb => ?_, hl.1, hl.2.1⟩
        unfold tooLong at ht
        rw [List.any_eq_false] at ht
        have := ht b hb
        simp only [decide_eq_true_eq] at this
        omega
theorem hashOf_range (b : List UInt8) : 0 ≤ hashOf b ∧ hashOf b < 18446744073709551616 := markFrom_range _ 14695981039346656037 (by decide) (by decide)
structure Valid (t : TxD) : Prop where
  frm : 0 ≤ t.frm ∧ t.frm < 8
  nonce : 0 ≤ t.nonce ∧ t.nonce ≤ 1099511627776
  gas : 0 ≤ t.gas ∧ t.gas ≤ 1073741824
  tip : t.tip ≤ t.cap
  fits : fitsOf t.hashes t.blobs = 0
  cost : costOf t < U
  hashes : t.hashes = t.blobs.map hashOf
  blob : ∀ b ∈ t.blobs, b.length ≤ 64
  one : 1 ≤ t.blobs.length
  four : t.blobs.length ≤ 4
theorem valid_of {t : TxD} (h : validTx t = true) : Valid t := by
  simp only [validTx, Bool.and_eq_true, decide_eq_true_eq] at h
  obtain ⟨⟨⟨⟨⟨⟨h1, h2⟩, h3, h4⟩, h5, h6⟩, h7⟩, h8⟩, h9⟩ := h
  obtain ⟨f1, f2, f3, f4⟩ := fits_all h8
  exact ⟨⟨h1, h2⟩, ⟨h3, h4⟩, ⟨h5, h6⟩, h7, h8, h9, f1, f2, f3, f4⟩
theorem num_short {n : Nat} (h : n < U) : (bytesOf n).length ≤ 32 := by rw [bytesOf_len]; exact byteLen_U h
theorem lt_U40 {n : Int} (h : n ≤ 1099511627776) : n.toNat < U := by unfold U; omega
theorem textOf_len (m : Int) : (textOf m).length = 8 := rfl
theorem hashI_raw {t : TxD} (h4 : t.hashes.length ≤ 4) : (raws (hashI t).items).length ≤ 36 := by
  have := raws_bound (xs := (hashI t).items) (m := 9) fun x hx => by
    obtain ⟨m, _, rfl⟩ := List.mem_map.1 hx
    exact leaf_short (s := textOf m) (by rw [textOf_len]; omega)
  have e : (hashI t).items.length = t.hashes.length := by show (t.hashes.map _).length = _; simp
  rw [e] at this
  omega
theorem blobI_raw {t : TxD} (h4 : t.blobs.length ≤ 4) (hb : ∀ b ∈ t.blobs, b.length ≤ 64) : (raws (blobI t).items).length ≤ 280 := by
  have := raws_bound (xs := (blobI t).items) (m := 70) fun x hx => by
    obtain ⟨b, hm, rfl⟩ := List.mem_map.1 hx
    have := hb b hm
    have := leaf_raw (s := b) (by omega)
    omega
  have e : (blobI t).items.length = t.blobs.length := by show (t.blobs.map _).length = _; simp
  rw [e] at this
  omega
theorem num_raw {n : Nat} (h : n < U) : (rawOf (numI n)).length ≤ 33 := by
  have h1 := num_short h
  have h2 : (rawOf (numI n)).length ≤ _ := leaf_short (s := bytesOf n) (by omega)
  omega
theorem valid_hlen {t : TxD} (hv : Valid t) : t.hashes.length ≤ 4 := by rw [hv.hashes, List.length_map]; exact hv.four
theorem tx_raws {t : TxD} (h : t.ok) (hv : Valid t) : (raws (txItem t).items).length ≤ 560 := by
  have h0 := num_raw (n := t.frm.toNat) (lt_U40 (by have := hv.frm; omega))
  have h1 := num_raw (n := t.nonce.toNat) (lt_U40 hv.nonce.2)
  have h2 := num_raw h.tip
  have h3 := num_raw h.cap
  have h4 := num_raw h.bcap
  have h5 := num_raw h.value
  have h6 := num_raw (n := t.gas.toNat) (lt_U40 (by have := hv.gas; omega))
  have h7 := hashI_raw (valid_hlen hv)
  have h8 := blobI_raw hv.four hv.blob
  have a7 := ahead_le (n := (raws (hashI t).items).length) (by omega)
  have a8 := ahead_le (n := (raws (blobI t).items).length) (by omega)
  have l7 : (rawOf (hashI t)).length = _ := list_raw (hashI t).items
  have l8 : (rawOf (blobI t)).length = _ := list_raw (blobI t).items
  show (raws [_, _, _, _, _, _, _, _, _]).length ≤ _
  simp only [raws_cons, raws_nil, List.length_append, List.length_nil]
  omega
theorem tx_may {t : TxD} (h : t.ok) (hv : Valid t) : okI 0 (txItem t) = true := by
  have nn : ∀ {n : Nat}, n < U → okI 1 (numI n) = true := fun hn => leaf_may 1 (by have := num_short hn; omega)
  refine list_may (by decide) (fun x hx => ?_) (by have : (raws (txItem t).items).length ≤ 560 := tx_raws h hv; exact Nat.le_trans this (by decide))
  simp only [List.mem_cons, List.not_mem_nil, or_false] at hx
  rcases hx with rfl | rfl | rfl | rfl | rfl | rfl | rfl | rfl | rfl
  · exact nn (lt_U40 (by have := hv.frm; omega))
  · exact nn (lt_U40 hv.nonce.2)
  · exact nn h.tip
  · exact nn h.cap
  · exact nn h.bcap
  · exact nn h.value
  · exact nn (lt_U40 (by have := hv.gas; omega))
  · refine list_may (by decide) (fun x hx => ?_) (Nat.le_trans (hashI_raw (valid_hlen hv)) (by decide))
    obtain ⟨m, _, rfl⟩ := List.mem_map.1 hx
    exact leaf_may 2 (by rw [textOf_len]; omega)
  · refine list_may (by decide) (fun x hx => ?_) (Nat.le_trans (blobI_raw hv.four hv.blob) (by decide))
    obtain ⟨b, hm, rfl⟩ := List.mem_map.1 hx
    exact leaf_may 2 (by have := hv.blob b hm; omega)
theorem txRaw_len {t : TxD} (h : t.ok) (hv : Valid t) : (txRaw t).length ≤ 566 := by
  have := tx_raws h hv
  have := ahead_le (n := (raws (txItem t).items).length) (by omega)
  have e : (txRaw t).length = _ := list_raw (txItem t).items
  omega
theorem leaf_wt (s : List UInt8) : (leaf s).wt = 1 + s.length := by rw [wt_eq]; show 1 + s.length + wts [] = _; rw [wts_nil, Nat.add_zero]
theorem list_wt (xs : List ItemD) : (listI xs).wt = 1 + wts xs := by rw [wt_eq]; show 1 + 0 + wts xs = _; rw [Nat.add_zero]
theorem wts_bound {xs : List ItemD} {m : Nat} (h : ∀ x ∈ xs, x.wt ≤ m) : wts xs ≤ m * xs.length := by
  induction xs with
  | nil => rw [wts_nil]; simp
  | cons x xs ih =>
    rw [wts_cons, List.length_cons, Nat.mul_add, Nat.mul_one]
    have := h x (by simp)
    have := ih fun y hy => h y (List.mem_cons_of_mem _ hy)
    omega
theorem tx_itok {t : TxD} (h : t.ok) (hv : Valid t) : (txItem t).ok := by
  have nn : ∀ {n : Nat}, n < U → (numI n).wt ≤ 33 := fun hn => by rw [leaf_wt]; have := num_short hn; omega
  have h0 := nn (n := t.frm.toNat) (lt_U40 (by have := hv.frm; omega))
  have h1 := nn (n := t.nonce.toNat) (lt_U40 hv.nonce.2)
  have h2 := nn h.tip
  have h3 := nn h.cap
  have h4 := nn h.bcap
  have h5 := nn h.value
  have h6 := nn (n := t.gas.toNat) (lt_U40 (by have := hv.gas; omega))
  have h7 : (hashI t).wt ≤ 37 := by
    have hw := wts_bound (xs := (hashI t).items) (m := 9) fun x hx => by
      obtain ⟨m, _, rfl⟩ := List.mem_map.1 hx
      rw [leaf_wt, textOf_len]; omega
    have e : (hashI t).items.length = t.hashes.length := by show (t.hashes.map _).length = _; simp
    have e2 : (hashI t).wt = _ := list_wt (hashI t).items
    have := valid_hlen hv
    rw [e] at hw
    omega
  have h8 : (blobI t).wt ≤ 261 := by
    have hw := wts_bound (xs := (blobI t).items) (m := 65) fun x hx => by
      obtain ⟨b, hm, rfl⟩ := List.mem_map.1 hx
      rw [leaf_wt]
      have := hv.blob b hm
      omega
    have e : (blobI t).items.length = t.blobs.length := by show (t.blobs.map _).length = _; simp
    have e2 : (blobI t).wt = _ := list_wt (blobI t).items
    have := hv.four
    rw [e] at hw
    omega
  unfold ItemD.ok
  have e : (txItem t).wt = _ := list_wt (txItem t).items
  rw [e]
  show 1 + wts [_, _, _, _, _, _, _, _, _] ≤ _
  simp only [wts_cons, wts_nil]
  omega
/-! Back. -/
theorem takeU_bytes {n : Nat} (h : n < U) : takeU (bytesOf n) = (n, true) := by
  unfold takeU
  rw [if_neg (fun e => by
    rcases e with e | e
    · have := num_short h; omega
    · exact bytesOf_head n e), bytesOf_val]
def eachI (x : ItemD) : List ItemD := if x.list = true then x.items else []
def smallU (n : Nat) : Bool := decide (n < 9223372036854775808)
def nums (l : List ItemD) : Bool := l.all fun x => (takeU x.text).2
def fieldsTx (x0 x1 x2 x3 x4 x5 x6 x7 x8 : ItemD) : TxD :=
  ⟨(takeU x0.text).1, (takeU x1.text).1, (takeU x2.text).1, (takeU x3.text).1, (takeU x4.text).1, (takeU x5.text).1, (takeU x6.text).1, (eachI x7).map (fun x => (takeOf x.text).1), (eachI x8).map ItemD.text⟩
def readTx : List ItemD → Option TxD
  | [x0, x1, x2, x3, x4, x5, x6, x7, x8] =>
    if nums [x0, x1, x2, x3, x4, x5, x6] = true then
      (if (smallU (takeU x0.text).1 && smallU (takeU x1.text).1 && smallU (takeU x6.text).1) = true then some (fieldsTx x0 x1 x2 x3 x4 x5 x6 x7 x8) else none)
    else none
  | _ => none
def takeTx (s : List UInt8) : Option TxD :=
  match parseAll s with
  | .error _ => none
  | .ok it => match readTx it.items with
    | none => none
    | some t => if validTx t = true ∧ txRaw t = s then some t else none
theorem fields_tx {t : TxD} (h : t.ok) (hv : Valid t) : fieldsTx (numI t.frm.toNat) (numI t.nonce.toNat) (numI t.tip) (numI t.cap) (numI t.bcap) (numI t.value) (numI t.gas.toNat) (hashI t) (blobI t) = t := by
  unfold fieldsTx
  have b0 := takeU_bytes (n := t.frm.toNat) (lt_U40 (by have := hv.frm; omega))
  have b1 := takeU_bytes (n := t.nonce.toNat) (lt_U40 hv.nonce.2)
  have b6 := takeU_bytes (n := t.gas.toNat) (lt_U40 (by have := hv.gas; omega))
  have e : ∀ s : List UInt8, (leaf s).text = s := fun _ => rfl
  rw [e, e, e, e, e, e, e, b0, b1, takeU_bytes h.tip, takeU_bytes h.cap, takeU_bytes h.bcap, takeU_bytes h.value, b6]
  have h7 : (eachI (hashI t)).map (fun x => (takeOf x.text).1) = t.hashes := by
    show ((t.hashes.map fun h => leaf (textOf h))).map (fun x => (takeOf x.text).1) = t.hashes
    rw [List.map_map]
    refine (List.map_congr_left (g := id) fun m hm => ?_).trans (List.map_id t.hashes)
    have hm2 : m ∈ t.blobs.map hashOf := by rw [← hv.hashes]; exact hm
    obtain ⟨b, hb, he⟩ := List.mem_map.1 hm2
    show (takeOf (textOf m)).1 = m
    rw [← he]
    unfold hashOf
    rw [take_text_mark]
  have h8 : (eachI (blobI t)).map ItemD.text = t.blobs := by
    show (t.blobs.map leaf).map ItemD.text = t.blobs
    rw [List.map_map]
    exact List.map_id t.blobs
  rw [h7, h8]
  have f0 := hv.frm
  have f1 := hv.nonce
  have f6 := hv.gas
  have g0 : ((t.frm.toNat : Nat) : Int) = t.frm := Int.toNat_of_nonneg f0.1
  have g1 : ((t.nonce.toNat : Nat) : Int) = t.nonce := Int.toNat_of_nonneg f1.1
  have g6 : ((t.gas.toNat : Nat) : Int) = t.gas := Int.toNat_of_nonneg f6.1
  simp only [g0, g1, g6]
theorem read_tx {t : TxD} (h : t.ok) (hv : Valid t) : readTx (txItem t).items = some t := by
  show readTx [_, _, _, _, _, _, _, _, _] = _
  unfold readTx
  have b0 := takeU_bytes (n := t.frm.toNat) (lt_U40 (by have := hv.frm; omega))
  have b1 := takeU_bytes (n := t.nonce.toNat) (lt_U40 hv.nonce.2)
  have b6 := takeU_bytes (n := t.gas.toNat) (lt_U40 (by have := hv.gas; omega))
  have e : ∀ s : List UInt8, (leaf s).text = s := fun _ => rfl
  have hn : nums [numI t.frm.toNat, numI t.nonce.toNat, numI t.tip, numI t.cap, numI t.bcap, numI t.value, numI t.gas.toNat] = true := by
    unfold nums
    simp only [List.all_cons, List.all_nil, e, b0, b1, takeU_bytes h.tip, takeU_bytes h.cap, takeU_bytes h.bcap, takeU_bytes h.value, b6, Bool.and_self]
  simp only
  rw [if_pos hn, if_pos, fields_tx h hv]
  rw [e, e, e, b0, b1, b6]
  have f0 := hv.frm
  have f1 := hv.nonce
  have f6 := hv.gas
  unfold smallU
  simp only [Bool.and_eq_true, decide_eq_true_eq]
  omega
theorem parse_tx {t : TxD} (h : t.ok) (hv : Valid t) (r : List UInt8) : parse 0 (txRaw t ++ r) = .ok (txItem t, (txRaw t).length) := parse_raw (txItem t) 0 (tx_may h hv) r
theorem parseAll_tx {t : TxD} (h : t.ok) (hv : Valid t) : parseAll (txRaw t) = .ok (txItem t) := by
  have := parse_tx h hv []
  rw [List.append_nil] at this
  unfold parseAll
  rw [this]
  simp only
  rw [if_neg (by omega)]
theorem take_tx {t : TxD} (h : t.ok) (hv : validTx t = true) : takeTx (txRaw t) = some t := by
  unfold takeTx
  rw [parseAll_tx h (valid_of hv)]
  simp only
  rw [read_tx h (valid_of hv)]
  simp only
  rw [if_pos ⟨hv, trivial⟩]
theorem parseAll_ok {s : List UInt8} {it : ItemD} (h : parseAll s = .ok it) : parse 0 s = .ok (it, s.length) ∧ okI 0 it = true ∧ rawOf it = s ∧ it.wt ≤ 2 * s.length := by
  unfold parseAll at h
  cases hp : parse 0 s with
  | error e => rw [hp] at h; cases h
  | ok r =>
    obtain ⟨x, k⟩ := r
    rw [hp] at h
    simp only at h
    have hpo := parse_ok hp
    have hle := hpo.le
    split at h
    · cases h
    · cases h
      have hk : k = s.length := by omega
      subst hk
      exact ⟨rfl, hpo.may, by rw [hpo.raw, List.take_length], hpo.wt⟩
theorem nums_lt {x : ItemD} : (takeU x.text).1 < U := takeU_lt _
theorem readTx_ok {l : List ItemD} {t : TxD} (h : readTx l = some t) (hl : wts l ≤ 16777216) : t.ok := by
  unfold readTx at h
  split at h
  · rename_i x0 x1 x2 x3 x4 x5 x6 x7 x8
    split at h
    · split at h
      · rename_i h1 h2
        cases h
        unfold smallU at h2
        simp only [Bool.and_eq_true, decide_eq_true_eq] at h2
        have m7 := wts_mem (x := x7) (xs := [x0, x1, x2, x3, x4, x5, x6, x7, x8]) (by simp)
        have m8 := wts_mem (x := x8) (xs := [x0, x1, x2, x3, x4, x5, x6, x7, x8]) (by simp)
        rw [wt_eq] at m7 m8
        have e7 : (eachI x7).length ≤ 16777216 := by
          unfold eachI
          split
          · have := wts_len x7.items; omega
          · simp
        have e8 : (eachI x8).length ≤ 16777216 := by
          unfold eachI
          split
          · have := wts_len x8.items; omega
          · simp
        have f0 : ∀ n : Nat, n < 9223372036854775808 → -9223372036854775808 ≤ (n : Int) ∧ (n : Int) ≤ 9223372036854775807 := fun n h => by omega
        refine ⟨f0 _ h2.1.1, f0 _ h2.1.2, f0 _ h2.2, nums_lt, nums_lt, nums_lt, nums_lt, ?_, ?_, ?_⟩
        · show ((eachI x7).map _).length * 8 ≤ reachBytes
          rw [List.length_map]; unfold reachBytes; omega
        · show ((eachI x8).map _).length * 16 ≤ reachBytes
          rw [List.length_map]; unfold reachBytes; omega
        · intro b hb
          obtain ⟨x, hx, rfl⟩ := List.mem_map.1 (show b ∈ (eachI x8).map ItemD.text from hb)
          have : x ∈ x8.items := by
            unfold eachI at hx
            split at hx
            · exact hx
            · cases hx
          have := wts_mem this
          rw [wt_eq] at this
          unfold reachBytes; omega
      · cases h
    · cases h
  · cases h
theorem takeTx_some {s : List UInt8} {t : TxD} (hs : s.length ≤ 4194304) (h : takeTx s = some t) : t.ok ∧ validTx t = true ∧ txRaw t = s := by
  unfold takeTx at h
  cases hp : parseAll s with
  | error e => rw [hp] at h; cases h
  | ok it =>
    rw [hp] at h
    simp only at h
    obtain ⟨_, _, _, hw⟩ := parseAll_ok hp
    have hwe := wt_eq it
    cases hr : readTx it.items with
    | none => rw [hr] at h; cases h
    | some t2 =>
      rw [hr] at h
      simp only at h
      split at h
      · rename_i hv
        cases h
        exact ⟨readTx_ok hr (by omega), hv.1, hv.2⟩
      · cases h
theorem takeTx_cut {t : TxD} (h : t.ok) (hv : validTx t = true) {j : Nat} (hj : j < (txRaw t).length) : takeTx ((txRaw t).take j) = none := by
  have := parse_cut (txItem t) (tx_may h (valid_of hv)) hj
  unfold takeTx parseAll
  have h2 : parse 0 ((txRaw t).take j) = .error 7 := this
  rw [h2]
theorem takeTx_more {t : TxD} (h : t.ok) (hv : validTx t = true) (b : UInt8) (r : List UInt8) : takeTx (txRaw t ++ b :: r) = none := by
  unfold takeTx parseAll
  rw [parse_tx h (valid_of hv)]
  simp only
  rw [if_pos (by simp)]
end Go.Proofs.Ytnamkghgehfphaa.VA
end
section
/- Items' bytes: how long, whether they may be. -/
namespace Go.Proofs.Ytnamkghgehfphaa.VA
set_option maxRecDepth 10000
set_option linter.unusedSimpArgs false
set_option linter.unusedVariables false
set_option maxHeartbeats 1000000

def longK (d : Nat) (it : ItemD) : Nat :=
  if it.list = false then (if it.items ≠ [] ∨ it.text.length > 65536 then 0 else if aloneB it.text = true then 1 else it.text.length + aheadN it.text.length)
  else if it.text ≠ [] ∨ 16 ≤ d then 0
  else if okIs (d + 1) it.items = true ∧ (raws it.items).length ≤ 65536 then (raws it.items).length + aheadN (raws it.items).length else 0
theorem longK_ok {d : Nat} {it : ItemD} (h : okI d it = true) : longK d it = (rawOf it).length := by
  unfold longK
  cases hl : it.list with
  | false =>
    rw [okI_text d hl, Bool.and_eq_true, decide_eq_true_eq, List.isEmpty_iff] at h
    rw [if_pos rfl]
    obtain ⟨h1, h2⟩ := h
    have ht : ¬ it.text.length > 65536 := by
      rw [rawOf_text hl] at h2
      split at h2
      · rename_i ha; have := alone_len ha; omega
      · rw [List.length_append] at h2; omega
    rw [if_neg (by simp [h1, ht]), rawOf_text hl]
    split
    · rename_i ha; rw [alone_len ha]
    · rw [List.length_append, headB_len]; omega
  | true =>
    rw [okI_list d hl] at h
    simp only [Bool.and_eq_true, decide_eq_true_eq, List.isEmpty_iff] at h
    obtain ⟨⟨⟨h1, h2⟩, h3⟩, h4⟩ := h
    rw [if_neg (by simp), if_neg (by simp [h1]; omega), rawOf_list hl, List.length_append, headB_len]
    rw [rawOf_list hl, List.length_append] at h4
    rw [if_pos ⟨h3, by omega⟩]
    omega
theorem longK_le (d : Nat) (it : ItemD) : longK d it ≤ 65542 := by
  have h1 := @ahead_le it.text.length
  have h2 := @ahead_le (raws it.items).length
  unfold longK
  repeat' split
  all_goals omega
theorem c_item_long (it : ItemD) (h : it.ok) (d : Nat) (hd : d ≤ 16) : Contract Try.prog 138 [it.av, .int .i64 d] (.tup [.int .i64 (longK d it), .bool (okI d it)]) := by
  have ht := h.text
  have hn := h.num
  have hahead := ahead_le (n := it.text.length) (by omega)
  cases hl : it.list with
  | false =>
    refine contract_of (C := cf 91 [1, 2, 4, 5, 6, 7, 9, 10, 11, 12, 28, 37, 52, 60, 61, 62, 63, 64, 82] (fun _ => [])) (cf_ok _ _ _) (fn := Try.f138) Try.func138 (by kernel_rfl) rfl (by kernel_rfl) (by simp [cf]) (plain2 it.plain (.int _ _)) (by decide) (noCell (by kernel_rfl)) ?_
    have bad : ∀ {σ}, look σ.tmps 4 = some (.int .i64 0) → look σ.tmps 5 = some (.bool false) → longK d it = 0 → okI d it = false → BodyPost (cf 91 [1, 2, 4, 5, 6, 7, 9, 10, 11, 12, 28, 37, 52, 60, 61, 62, 63, 64, 82] (fun _ => [])) Try.f138.results.toList (.tup [.int .i64 (longK d it), .bool (okI d it)]) .ret σ := fun h1 h2 h3 h4 => by
      refine finTup ?_
      show resOf _ _ [.tmp 4, .tmp 5] = _
      rw [h3, h4]
      simp only [resOf, resAll, resOne, resCons, resTup, resTmp, h1, h2, AV.isImm, if_true]
      rfl
    simp only [go_sem, ↓reduceIte, Nat.reduceLT, Nat.reduceLeDiff, Nat.reduceAdd, Nat.reduceSub, Nat.reduceMul, Nat.reduceEqDiff, Nat.reduceBEq, Nat.reduceMod, Nat.reduceDiv, Int.reduceToNat, reduceCtorEq, Int.reduceLT, Int.reduceLE, Int.reduceGT, Int.reduceGE, Int.reduceAdd, Int.reduceSub, Int.reduceMul, Int.reduceNeg, Int.reduceEq, Int.reduceNe, Int.reduceBNe, Int.reduceBEq, Int.reduceDiv, ItemD.av_eq, ItemD.cells, hl, List.length_map]
    rcases Decidable.em (it.items = []) with hi | hi
    · rw [hi]
      simp only [go_sem, ↓reduceIte, Nat.reduceLT, Nat.reduceLeDiff, Nat.reduceAdd, Nat.reduceSub, Nat.reduceMul, Nat.reduceEqDiff, Nat.reduceBEq, Nat.reduceMod, Nat.reduceDiv, Int.reduceToNat, reduceCtorEq, Int.reduceLT, Int.reduceLE, Int.reduceGT, Int.reduceGE, Int.reduceAdd, Int.reduceSub, Int.reduceMul, Int.reduceNeg, Int.reduceEq, Int.reduceNe, Int.reduceBNe, Int.reduceBEq, Int.reduceDiv, Int.cast_ofNat_Int]
      rcases Decidable.em (it.text.length > 65536) with hx | hx
      · have e1 : decide ((it.text.length : Int) > 65536) = true := decide_eq_true (by omega)
        rw [e1]
        simp only [go_sem, ↓reduceIte, Nat.reduceLT, Nat.reduceLeDiff, Nat.reduceAdd, Nat.reduceSub, Nat.reduceMul, Nat.reduceEqDiff, Nat.reduceBEq, Nat.reduceMod, Nat.reduceDiv, Int.reduceToNat, reduceCtorEq, Int.reduceLT, Int.reduceLE, Int.reduceGT, Int.reduceGE, Int.reduceAdd, Int.reduceSub, Int.reduceMul, Int.reduceNeg, Int.reduceEq, Int.reduceNe, Int.reduceBNe, Int.reduceBEq, Int.reduceDiv]
        refine bad rfl rfl (by unfold longK; rw [if_pos hl, if_pos (.inr hx)]) ?_
        rw [okI_text d hl, hi, rawOf_text hl]
        rw [if_neg (fun ha => by have := alone_len ha; omega), List.length_append]
        rw [decide_eq_false (by omega)]; rfl
      · have e1 : decide ((it.text.length : Int) > 65536) = false := decide_eq_false (by omega)
        rw [e1]
        simp only [go_sem, ↓reduceIte, Nat.reduceLT, Nat.reduceLeDiff, Nat.reduceAdd, Nat.reduceSub, Nat.reduceMul, Nat.reduceEqDiff, Nat.reduceBEq, Nat.reduceMod, Nat.reduceDiv, Int.reduceToNat, reduceCtorEq, Int.reduceLT, Int.reduceLE, Int.reduceGT, Int.reduceGE, Int.reduceAdd, Int.reduceSub, Int.reduceMul, Int.reduceNeg, Int.reduceEq, Int.reduceNe, Int.reduceBNe, Int.reduceBEq, Int.reduceDiv, hl]
        refine ex_call (by exact c_item_alone it.text (by omega)) ?_
        simp only [go_sem, ↓reduceIte, Nat.reduceLT, Nat.reduceLeDiff, Nat.reduceAdd, Nat.reduceSub, Nat.reduceMul, Nat.reduceEqDiff, Nat.reduceBEq, Nat.reduceMod, Nat.reduceDiv, Int.reduceToNat, reduceCtorEq, Int.reduceLT, Int.reduceLE, Int.reduceGT, Int.reduceGE, Int.reduceAdd, Int.reduceSub, Int.reduceMul, Int.reduceNeg, Int.reduceEq, Int.reduceNe, Int.reduceBNe, Int.reduceBEq, Int.reduceDiv, hl]
        cases ha : aloneB it.text with
        | true =>
          have hk : longK d it = 1 := by unfold longK; rw [if_pos hl, if_neg (by simp [hi]; omega), if_pos ha]
          have ho : okI d it = true := by rw [okI_text d hl, hi, rawOf_text hl, if_pos ha, alone_len ha]; rfl
          rw [hk, ho]
          simp only [go_sem, ↓reduceIte, Nat.reduceLT, Nat.reduceLeDiff, Nat.reduceAdd, Nat.reduceSub, Nat.reduceMul, Nat.reduceEqDiff, Nat.reduceBEq, Nat.reduceMod, Nat.reduceDiv, Int.reduceToNat, reduceCtorEq, Int.reduceLT, Int.reduceLE, Int.reduceGT, Int.reduceGE, Int.reduceAdd, Int.reduceSub, Int.reduceMul, Int.reduceNeg, Int.reduceEq, Int.reduceNe, Int.reduceBNe, Int.reduceBEq, Int.reduceDiv]
          refine finTup ?_
          show resOf _ _ [.tmp 4, .tmp 5] = _
          simp only [go_sem, ↓reduceIte, Nat.reduceLT, Nat.reduceLeDiff, Nat.reduceAdd, Nat.reduceSub, Nat.reduceMul, Nat.reduceEqDiff, Nat.reduceBEq, Nat.reduceMod, Nat.reduceDiv, Int.reduceToNat, reduceCtorEq, Int.reduceLT, Int.reduceLE, Int.reduceGT, Int.reduceGE, Int.reduceAdd, Int.reduceSub, Int.reduceMul, Int.reduceNeg, Int.reduceEq, Int.reduceNe, Int.reduceBNe, Int.reduceBEq, Int.reduceDiv]
          rfl
        | false =>
          have hk : longK d it = it.text.length + aheadN it.text.length := by unfold longK; rw [if_pos hl, if_neg (by simp [hi]; omega), if_neg (by rw [ha]; simp)]
          have ho : okI d it = decide (((it.text.length + aheadN it.text.length : Nat) : Int) ≤ 65536) := by
            rw [okI_text d hl, hi, rawOf_text hl, if_neg (by rw [ha]; simp), List.length_append, headB_len]
            rw [show ([] : List ItemD).isEmpty = true from rfl, Bool.true_and]
            exact decide_congr (by omega)
          have w : IntKind.i64.wrap ((it.text.length : Int) + (aheadN it.text.length : Int)) = ((it.text.length + aheadN it.text.length : Nat) : Int) := by rw [wi64 (by omega) (by omega)]; omega
          rw [hk, ho]
          simp only [go_sem, ↓reduceIte, Nat.reduceLT, Nat.reduceLeDiff, Nat.reduceAdd, Nat.reduceSub, Nat.reduceMul, Nat.reduceEqDiff, Nat.reduceBEq, Nat.reduceMod, Nat.reduceDiv, Int.reduceToNat, reduceCtorEq, Int.reduceLT, Int.reduceLE, Int.reduceGT, Int.reduceGE, Int.reduceAdd, Int.reduceSub, Int.reduceMul, Int.reduceNeg, Int.reduceEq, Int.reduceNe, Int.reduceBNe, Int.reduceBEq, Int.reduceDiv, hl]
          refine ex_draw [] [] (.quiet 0 (.quiet 1 (.quiet 2 (.quiet 3 (.quiet 4 (.quiet 5 (.one 6 (.quiet 7 (.quiet 8 (.fin)))))))))) (by kernel_rfl) ?_
          simp only [go_sem, ↓reduceIte, Nat.reduceLT, Nat.reduceLeDiff, Nat.reduceAdd, Nat.reduceSub, Nat.reduceMul, Nat.reduceEqDiff, Nat.reduceBEq, Nat.reduceMod, Nat.reduceDiv, Int.reduceToNat, reduceCtorEq, Int.reduceLT, Int.reduceLE, Int.reduceGT, Int.reduceGE, Int.reduceAdd, Int.reduceSub, Int.reduceMul, Int.reduceNeg, Int.reduceEq, Int.reduceNe, Int.reduceBNe, Int.reduceBEq, Int.reduceDiv]
          refine ex_call (by exact c_item_ahead it.text.length (by omega)) ?_
          simp only [go_sem, ↓reduceIte, Nat.reduceLT, Nat.reduceLeDiff, Nat.reduceAdd, Nat.reduceSub, Nat.reduceMul, Nat.reduceEqDiff, Nat.reduceBEq, Nat.reduceMod, Nat.reduceDiv, Int.reduceToNat, reduceCtorEq, Int.reduceLT, Int.reduceLE, Int.reduceGT, Int.reduceGE, Int.reduceAdd, Int.reduceSub, Int.reduceMul, Int.reduceNeg, Int.reduceEq, Int.reduceNe, Int.reduceBNe, Int.reduceBEq, Int.reduceDiv, w]
          refine finTup ?_
          show resOf _ _ [.tmp 4, .tmp 5] = _
          simp only [go_sem, ↓reduceIte, Nat.reduceLT, Nat.reduceLeDiff, Nat.reduceAdd, Nat.reduceSub, Nat.reduceMul, Nat.reduceEqDiff, Nat.reduceBEq, Nat.reduceMod, Nat.reduceDiv, Int.reduceToNat, reduceCtorEq, Int.reduceLT, Int.reduceLE, Int.reduceGT, Int.reduceGE, Int.reduceAdd, Int.reduceSub, Int.reduceMul, Int.reduceNeg, Int.reduceEq, Int.reduceNe, Int.reduceBNe, Int.reduceBEq, Int.reduceDiv]
    · have e1 : decide ((it.items.length : Int) > 0) = true := decide_eq_true (by
        have : it.items.length ≠ 0 := fun e => hi (List.eq_nil_of_length_eq_zero e)
        omega)
      rw [e1]
      simp only [go_sem, ↓reduceIte, Nat.reduceLT, Nat.reduceLeDiff, Nat.reduceAdd, Nat.reduceSub, Nat.reduceMul, Nat.reduceEqDiff, Nat.reduceBEq, Nat.reduceMod, Nat.reduceDiv, Int.reduceToNat, reduceCtorEq, Int.reduceLT, Int.reduceLE, Int.reduceGT, Int.reduceGE, Int.reduceAdd, Int.reduceSub, Int.reduceMul, Int.reduceNeg, Int.reduceEq, Int.reduceNe, Int.reduceBNe, Int.reduceBEq, Int.reduceDiv]
      refine bad rfl rfl (by unfold longK; rw [if_pos hl, if_pos (.inl hi)]) ?_
      rw [okI_text d hl]
      cases hq : it.items with
      | nil => exact absurd hq hi
      | cons a l => rfl
  | true =>
    have ih : ∀ x, x ∈ it.items → d + 1 ≤ 16 → Contract Try.prog 138 [x.av, .int .i64 (d + 1 : Nat)] (.tup [.int .i64 (longK (d + 1) x), .bool (okI (d + 1) x)]) := fun x hx hd1 => c_item_long x (h.all x hx) (d + 1) hd1
    refine contract_of (C := cf 91 [1, 2, 4, 5, 6, 7, 9, 10, 11, 12, 28, 37, 52, 60, 61, 62, 63, 64, 82] (fun _ => [])) (cf_ok _ _ _) (fn := Try.f138) Try.func138 (by kernel_rfl) rfl (by kernel_rfl) (by simp [cf]) (plain2 it.plain (.int _ _)) (by decide) (noCell (by kernel_rfl)) ?_
    have hkl : longK d it = if it.text ≠ [] ∨ 16 ≤ d then 0 else if okIs (d + 1) it.items = true ∧ (raws it.items).length ≤ 65536 then (raws it.items).length + aheadN (raws it.items).length else 0 := by
      unfold longK; rw [if_neg (by rw [hl]; simp)]
    have bad : ∀ {σ}, look σ.tmps 4 = some (.int .i64 0) → look σ.tmps 5 = some (.bool false) → longK d it = 0 → okI d it = false → BodyPost (cf 91 [1, 2, 4, 5, 6, 7, 9, 10, 11, 12, 28, 37, 52, 60, 61, 62, 63, 64, 82] (fun _ => [])) Try.f138.results.toList (.tup [.int .i64 (longK d it), .bool (okI d it)]) .ret σ := fun h1 h2 h3 h4 => by
      refine finTup ?_
      show resOf _ _ [.tmp 4, .tmp 5] = _
      rw [h3, h4]
      simp only [resOf, resAll, resOne, resCons, resTup, resTmp, h1, h2, AV.isImm, if_true]
      rfl
    simp only [go_sem, ↓reduceIte, Nat.reduceLT, Nat.reduceLeDiff, Nat.reduceAdd, Nat.reduceSub, Nat.reduceMul, Nat.reduceEqDiff, Nat.reduceBEq, Nat.reduceMod, Nat.reduceDiv, Int.reduceToNat, reduceCtorEq, Int.reduceLT, Int.reduceLE, Int.reduceGT, Int.reduceGE, Int.reduceAdd, Int.reduceSub, Int.reduceMul, Int.reduceNeg, Int.reduceEq, Int.reduceNe, Int.reduceBNe, Int.reduceBEq, Int.reduceDiv, ItemD.av_eq, ItemD.cells, hl, List.length_map]
    rcases Decidable.em (it.text = []) with htx | htx
    · rw [htx]
      rcases Decidable.em (16 ≤ d) with hd1 | hd1
      · have e1 : decide ((d : Int) ≥ 16) = true := decide_eq_true (by omega)
        simp only [go_sem, ↓reduceIte, Nat.reduceLT, Nat.reduceLeDiff, Nat.reduceAdd, Nat.reduceSub, Nat.reduceMul, Nat.reduceEqDiff, Nat.reduceBEq, Nat.reduceMod, Nat.reduceDiv, Int.reduceToNat, reduceCtorEq, Int.reduceLT, Int.reduceLE, Int.reduceGT, Int.reduceGE, Int.reduceAdd, Int.reduceSub, Int.reduceMul, Int.reduceNeg, Int.reduceEq, Int.reduceNe, Int.reduceBNe, Int.reduceBEq, Int.reduceDiv, e1, hl]
        refine bad rfl rfl (by rw [hkl, if_pos (.inr hd1)]) ?_
        rw [okI_list d hl, decide_eq_false (show ¬ d < 16 by omega)]; simp
      · have e1 : decide ((d : Int) ≥ 16) = false := decide_eq_false (by omega)
        have hk : longK d it = if okIs (d + 1) it.items = true ∧ (raws it.items).length ≤ 65536 then (raws it.items).length + aheadN (raws it.items).length else 0 := by
          rw [hkl, if_neg (by simp [htx]; omega)]
        have ho : okI d it = (okIs (d + 1) it.items && decide ((rawOf it).length ≤ 65536)) := by
          rw [okI_list d hl, htx, decide_eq_true (show d < 16 by omega)]; simp
        have hrl : (rawOf it).length = (raws it.items).length + aheadN (raws it.items).length := by rw [rawOf_list hl, List.length_append, headB_len]; omega
        have w1 : IntKind.i64.wrap ((d : Int) + 1) = ((d + 1 : Nat) : Int) := wi64_nat d (by omega)
        simp only [go_sem, ↓reduceIte, Nat.reduceLT, Nat.reduceLeDiff, Nat.reduceAdd, Nat.reduceSub, Nat.reduceMul, Nat.reduceEqDiff, Nat.reduceBEq, Nat.reduceMod, Nat.reduceDiv, Int.reduceToNat, reduceCtorEq, Int.reduceLT, Int.reduceLE, Int.reduceGT, Int.reduceGE, Int.reduceAdd, Int.reduceSub, Int.reduceMul, Int.reduceNeg, Int.reduceEq, Int.reduceNe, Int.reduceBNe, Int.reduceBEq, Int.reduceDiv, e1, hl, List.length_map]
        refine ex_iter [1, 2, 7, 60, 61, 62, 63] (fun i : Nat => ⟨[(1, .int .i64 d), (2, .var 2 0), (7, .int .i64 (raws (it.items.take i)).length), (60, .var 2 2), (61, .sl false 3 (it.items.map ItemD.av)), (62, .int .i64 it.items.length), (63, .int .i64 i)], [(2, [.bool true, .str [], .sl false 3 (it.items.map ItemD.av)])]⟩)
          (fun i => i ≤ it.items.length ∧ okIs (d + 1) (it.items.take i) = true ∧ (raws (it.items.take i)).length ≤ 65536) (fun i => it.items.length - i) 0 ?_ ?_ ?_
        · simp only [ASt.keep, consIf, keepL, keepV, AV.isBot, List.contains_cons, List.contains_nil, Nat.reduceBEq, Bool.or_false, Bool.false_or, Bool.or_true, Bool.true_or, beq_self_eq_true, Bool.false_eq_true, ↓reduceIte, if_false, if_true]
          rfl
        · exact ⟨Nat.zero_le _, by rw [List.take_zero, okIs_nil], by rw [List.take_zero, raws_nil]; simp⟩
        · rintro r i ⟨hi, hok, hlen⟩ next
          simp only [go_sem, ↓reduceIte, Nat.reduceLT, Nat.reduceLeDiff, Nat.reduceAdd, Nat.reduceSub, Nat.reduceMul, Nat.reduceEqDiff, Nat.reduceBEq, Nat.reduceMod, Nat.reduceDiv, Int.reduceToNat, reduceCtorEq, Int.reduceLT, Int.reduceLE, Int.reduceGT, Int.reduceGE, Int.reduceAdd, Int.reduceSub, Int.reduceMul, Int.reduceNeg, Int.reduceEq, Int.reduceNe, Int.reduceBNe, Int.reduceBEq, Int.reduceDiv]
          refine ex_br (fun hc => ?_) (fun hc => ?_)
          · have hlt : i < it.items.length := by simpa using hc
            obtain ⟨x, ex⟩ : ∃ x, it.items[i]? = some x := ⟨_, List.getElem?_eq_getElem hlt⟩
            have hm := List.mem_of_getElem? ex
            have hx := ih x hm (by omega)
            rw [ItemD.av_eq] at hx
            have hkx := longK_le (d + 1) x
            have hsnoc : it.items.take (i + 1) = it.items.take i ++ [x] := by rw [List.take_add_one, ex]; rfl
            have hraw : raws (it.items.take (i + 1)) = raws (it.items.take i) ++ rawOf x := by rw [hsnoc, raws_append, raws_cons, raws_nil, List.append_nil]
            have hok2 : okI (d + 1) x = true → okIs (d + 1) (it.items.take (i + 1)) = true := fun hox => by
              rw [hsnoc]
              refine okIs_all fun y hy => ?_
              rcases List.mem_append.1 hy with hy | hy
              · exact okIs_mem hok y hy
              · rw [List.mem_singleton.1 hy]; exact hox
            have w2 : IntKind.i64.wrap (((raws (it.items.take i)).length : Int) + (longK (d + 1) x : Int)) = (((raws (it.items.take i)).length + longK (d + 1) x : Nat) : Int) := by rw [wi64 (by omega) (by omega)]; omega
            cases hox : okI (d + 1) x with
            | true =>
              have hkk := longK_ok hox
              rw [hox, hkk] at hx
              rw [hkk] at w2
              rcases Decidable.em ((raws (it.items.take i)).length + (rawOf x).length > 65536) with hg | hg
              · have e2 : decide ((((raws (it.items.take i)).length + (rawOf x).length : Nat) : Int) > 65536) = true := decide_eq_true (by omega)
                simp only [go_sem, ↓reduceIte, Nat.reduceLT, Nat.reduceLeDiff, Nat.reduceAdd, Nat.reduceSub, Nat.reduceMul, Nat.reduceEqDiff, Nat.reduceBEq, Nat.reduceMod, Nat.reduceDiv, Int.reduceToNat, reduceCtorEq, Int.reduceLT, Int.reduceLE, Int.reduceGT, Int.reduceGE, Int.reduceAdd, Int.reduceSub, Int.reduceMul, Int.reduceNeg, Int.reduceEq, Int.reduceNe, Int.reduceBNe, Int.reduceBEq, Int.reduceDiv, List.length_map, List.getElem?_map, ex, Int.toNat_natCast, ItemD.av_eq, ItemD.cells]
                repeat with_reducible refine And.intro (by first | omega | (simp only [List.length_cons, List.length_append, List.length_nil, List.length_map, List.length_take, List.length_drop, List.length_set]; omega)) ?_
                try simp only [go_sem, ↓reduceIte, Nat.reduceLT, Nat.reduceLeDiff, Nat.reduceAdd, Nat.reduceSub, Nat.reduceMul, Nat.reduceEqDiff, Nat.reduceBEq, Nat.reduceMod, Nat.reduceDiv, Int.reduceToNat, reduceCtorEq, Int.reduceLT, Int.reduceLE, Int.reduceGT, Int.reduceGE, Int.reduceAdd, Int.reduceSub, Int.reduceMul, Int.reduceNeg, Int.reduceEq, Int.reduceNe, Int.reduceBNe, Int.reduceBEq, Int.reduceDiv, ItemD.cells, w1]
                refine ex_call (by exact hx) ?_
                simp only [go_sem, ↓reduceIte, Nat.reduceLT, Nat.reduceLeDiff, Nat.reduceAdd, Nat.reduceSub, Nat.reduceMul, Nat.reduceEqDiff, Nat.reduceBEq, Nat.reduceMod, Nat.reduceDiv, Int.reduceToNat, reduceCtorEq, Int.reduceLT, Int.reduceLE, Int.reduceGT, Int.reduceGE, Int.reduceAdd, Int.reduceSub, Int.reduceMul, Int.reduceNeg, Int.reduceEq, Int.reduceNe, Int.reduceBNe, Int.reduceBEq, Int.reduceDiv, w2, e2]
                have hbig : ¬ (raws it.items).length ≤ 65536 := by
                  have e3 : raws it.items = raws (it.items.take (i + 1)) ++ raws (it.items.drop (i + 1)) := by rw [← raws_append, List.take_append_drop]
                  rw [e3, List.length_append, hraw, List.length_append]
                  omega
                refine bad rfl rfl (by rw [hk, if_neg (fun h => hbig h.2)]) ?_
                rw [ho, decide_eq_false (by omega)]; simp
              · have e2 : decide ((((raws (it.items.take i)).length + (rawOf x).length : Nat) : Int) > 65536) = false := decide_eq_false (by omega)
                simp only [go_sem, ↓reduceIte, Nat.reduceLT, Nat.reduceLeDiff, Nat.reduceAdd, Nat.reduceSub, Nat.reduceMul, Nat.reduceEqDiff, Nat.reduceBEq, Nat.reduceMod, Nat.reduceDiv, Int.reduceToNat, reduceCtorEq, Int.reduceLT, Int.reduceLE, Int.reduceGT, Int.reduceGE, Int.reduceAdd, Int.reduceSub, Int.reduceMul, Int.reduceNeg, Int.reduceEq, Int.reduceNe, Int.reduceBNe, Int.reduceBEq, Int.reduceDiv, List.length_map, List.getElem?_map, ex, Int.toNat_natCast, ItemD.av_eq, ItemD.cells]
                repeat with_reducible refine And.intro (by first | omega | (simp only [List.length_cons, List.length_append, List.length_nil, List.length_map, List.length_take, List.length_drop, List.length_set]; omega)) ?_
                try simp only [go_sem, ↓reduceIte, Nat.reduceLT, Nat.reduceLeDiff, Nat.reduceAdd, Nat.reduceSub, Nat.reduceMul, Nat.reduceEqDiff, Nat.reduceBEq, Nat.reduceMod, Nat.reduceDiv, Int.reduceToNat, reduceCtorEq, Int.reduceLT, Int.reduceLE, Int.reduceGT, Int.reduceGE, Int.reduceAdd, Int.reduceSub, Int.reduceMul, Int.reduceNeg, Int.reduceEq, Int.reduceNe, Int.reduceBNe, Int.reduceBEq, Int.reduceDiv, ItemD.cells, w1]
                refine ex_call (by exact hx) ?_
                simp only [go_sem, ↓reduceIte, Nat.reduceLT, Nat.reduceLeDiff, Nat.reduceAdd, Nat.reduceSub, Nat.reduceMul, Nat.reduceEqDiff, Nat.reduceBEq, Nat.reduceMod, Nat.reduceDiv, Int.reduceToNat, reduceCtorEq, Int.reduceLT, Int.reduceLE, Int.reduceGT, Int.reduceGE, Int.reduceAdd, Int.reduceSub, Int.reduceMul, Int.reduceNeg, Int.reduceEq, Int.reduceNe, Int.reduceBNe, Int.reduceBEq, Int.reduceDiv, w2, e2]
                refine next (i + 1) _ ⟨by omega, hok2 hox, by rw [hraw, List.length_append]; omega⟩ (by omega) ?_
                rw [hraw, List.length_append, ← wi64_nat i (by omega)]
                simp only [ASt.keep, consIf, keepL, keepV, AV.isBot, List.contains_cons, List.contains_nil, Nat.reduceBEq, Bool.or_false, Bool.false_or, Bool.or_true, Bool.true_or, beq_self_eq_true, Bool.false_eq_true, ↓reduceIte, if_false, if_true]
            | false =>
              rw [hox] at hx
              simp only [go_sem, ↓reduceIte, Nat.reduceLT, Nat.reduceLeDiff, Nat.reduceAdd, Nat.reduceSub, Nat.reduceMul, Nat.reduceEqDiff, Nat.reduceBEq, Nat.reduceMod, Nat.reduceDiv, Int.reduceToNat, reduceCtorEq, Int.reduceLT, Int.reduceLE, Int.reduceGT, Int.reduceGE, Int.reduceAdd, Int.reduceSub, Int.reduceMul, Int.reduceNeg, Int.reduceEq, Int.reduceNe, Int.reduceBNe, Int.reduceBEq, Int.reduceDiv, List.length_map, List.getElem?_map, ex, Int.toNat_natCast, ItemD.av_eq, ItemD.cells]
              repeat with_reducible refine And.intro (by first | omega | (simp only [List.length_cons, List.length_append, List.length_nil, List.length_map, List.length_take, List.length_drop, List.length_set]; omega)) ?_
              try simp only [go_sem, ↓reduceIte, Nat.reduceLT, Nat.reduceLeDiff, Nat.reduceAdd, Nat.reduceSub, Nat.reduceMul, Nat.reduceEqDiff, Nat.reduceBEq, Nat.reduceMod, Nat.reduceDiv, Int.reduceToNat, reduceCtorEq, Int.reduceLT, Int.reduceLE, Int.reduceGT, Int.reduceGE, Int.reduceAdd, Int.reduceSub, Int.reduceMul, Int.reduceNeg, Int.reduceEq, Int.reduceNe, Int.reduceBNe, Int.reduceBEq, Int.reduceDiv, ItemD.cells, w1]
              refine ex_call (by exact hx) ?_
              simp only [go_sem, ↓reduceIte, Nat.reduceLT, Nat.reduceLeDiff, Nat.reduceAdd, Nat.reduceSub, Nat.reduceMul, Nat.reduceEqDiff, Nat.reduceBEq, Nat.reduceMod, Nat.reduceDiv, Int.reduceToNat, reduceCtorEq, Int.reduceLT, Int.reduceLE, Int.reduceGT, Int.reduceGE, Int.reduceAdd, Int.reduceSub, Int.reduceMul, Int.reduceNeg, Int.reduceEq, Int.reduceNe, Int.reduceBNe, Int.reduceBEq, Int.reduceDiv, w2]
              have hbad : okIs (d + 1) it.items = false := by
                cases hq : okIs (d + 1) it.items with
                | false => rfl
                | true => rw [okIs_mem hq x hm] at hox; cases hox
              refine bad rfl rfl (by rw [hk, if_neg (fun h => by rw [hbad] at h; cases h.1)]) ?_
              rw [ho, hbad]; rfl
          · have hge : i = it.items.length := by simp at hc; omega
            subst hge
            rw [List.take_length] at hok hlen ⊢
            have hah := ahead_le (n := (raws it.items).length) (by omega)
            have w3 : IntKind.i64.wrap (((raws it.items).length : Int) + (aheadN (raws it.items).length : Int)) = (((raws it.items).length + aheadN (raws it.items).length : Nat) : Int) := by rw [wi64 (by omega) (by omega)]; omega
            rw [hk, if_pos ⟨hok, hlen⟩, ho, hok, Bool.true_and, hrl]
            simp only [go_sem, ↓reduceIte, Nat.reduceLT, Nat.reduceLeDiff, Nat.reduceAdd, Nat.reduceSub, Nat.reduceMul, Nat.reduceEqDiff, Nat.reduceBEq, Nat.reduceMod, Nat.reduceDiv, Int.reduceToNat, reduceCtorEq, Int.reduceLT, Int.reduceLE, Int.reduceGT, Int.reduceGE, Int.reduceAdd, Int.reduceSub, Int.reduceMul, Int.reduceNeg, Int.reduceEq, Int.reduceNe, Int.reduceBNe, Int.reduceBEq, Int.reduceDiv]
            refine ex_call (by exact c_item_ahead (raws it.items).length (by omega)) ?_
            have e3 : decide ((((raws it.items).length + aheadN (raws it.items).length : Nat) : Int) ≤ 65536) = decide ((raws it.items).length + aheadN (raws it.items).length ≤ 65536) := decide_congr (by omega)
            simp only [go_sem, ↓reduceIte, Nat.reduceLT, Nat.reduceLeDiff, Nat.reduceAdd, Nat.reduceSub, Nat.reduceMul, Nat.reduceEqDiff, Nat.reduceBEq, Nat.reduceMod, Nat.reduceDiv, Int.reduceToNat, reduceCtorEq, Int.reduceLT, Int.reduceLE, Int.reduceGT, Int.reduceGE, Int.reduceAdd, Int.reduceSub, Int.reduceMul, Int.reduceNeg, Int.reduceEq, Int.reduceNe, Int.reduceBNe, Int.reduceBEq, Int.reduceDiv, w3, e3]
            refine finTup ?_
            show resOf _ _ [.tmp 4, .tmp 5] = _
            simp only [go_sem, ↓reduceIte, Nat.reduceLT, Nat.reduceLeDiff, Nat.reduceAdd, Nat.reduceSub, Nat.reduceMul, Nat.reduceEqDiff, Nat.reduceBEq, Nat.reduceMod, Nat.reduceDiv, Int.reduceToNat, reduceCtorEq, Int.reduceLT, Int.reduceLE, Int.reduceGT, Int.reduceGE, Int.reduceAdd, Int.reduceSub, Int.reduceMul, Int.reduceNeg, Int.reduceEq, Int.reduceNe, Int.reduceBNe, Int.reduceBEq, Int.reduceDiv]
    · have e1 : (it.text == ([] : List UInt8)) = false := by simpa using htx
      rw [e1]
      simp only [go_sem, ↓reduceIte, Nat.reduceLT, Nat.reduceLeDiff, Nat.reduceAdd, Nat.reduceSub, Nat.reduceMul, Nat.reduceEqDiff, Nat.reduceBEq, Nat.reduceMod, Nat.reduceDiv, Int.reduceToNat, reduceCtorEq, Int.reduceLT, Int.reduceLE, Int.reduceGT, Int.reduceGE, Int.reduceAdd, Int.reduceSub, Int.reduceMul, Int.reduceNeg, Int.reduceEq, Int.reduceNe, Int.reduceBNe, Int.reduceBEq, Int.reduceDiv, hl]
      refine bad rfl rfl (by rw [hkl, if_pos (.inl htx)]) ?_
      rw [okI_list d hl]
      cases hq : it.text with
      | nil => exact absurd hq htx
      | cons a l => rfl
termination_by SizeOf.sizeOf it
decreasing_by exact item_lt hx
end Go.Proofs.Ytnamkghgehfphaa.VA
end
section
/- Functions that hand values to a loop: laws for their walks. -/
namespace Go.Proofs.Ytnamkghgehfphaa.VA
set_option linter.unusedVariables false
section
variable {F : Fx} {I : Imm} {own : Nat → Option Loc} {σ : ASt} {a : Act} {w : World} {C : Cfg} {K : ASt → Prop} {Q : Exit → Act → World → Prop}

theorem reg_in (hok : CfgOk C) {id : Nat} {ops : Array Oper} (hnd : noDeferB ops = true) (hC : F.C = C) (hop : F.open) (h : RI F I own σ a w) (hw : aops C ops.toList K ops.toList σ) (hL : ¬ LetsOut Q) (hQ : ∀ a w, Post F K a w → Q .normal a w) :
    (Code.region id ops false).wpIn (fen none) 0 C.P Q a w := region_in (noDefer_of hnd) hL (aops_ok hC hok hop hQ ops.toList σ I own a w h hw)
/-- One operation of a region. -/
theorem op_in (hok : CfgOk C) {ops : List Oper} {rest : List Oper} {o : Oper} (hd : ∀ c, o.op ≠ .defer c) (hC : F.C = C) (hop : F.open) (h : RI F I own σ a w) (hw : aops C ops K [o] σ)
    (hn : ∀ a w, Post F K a w → wpListIn (fen none) 0 C.P ops.toArray Q rest a w) : wpListIn (fen none) 0 C.P ops.toArray Q (o :: rest) a w := by
  have hs := step_ok (Q := Q) (ops := ops.toArray) (K := K) hC hok (fun τ _ => OkLk.of_open hop τ o) h hw
  unfold wpListIn
  split
  · rename_i hwd
    exact Oper.wpIn_mono hn (oper_in hd (hs.1 hwd))
  · rename_i hwd
    exact ⟨fun _ _ => trivial, hn _ _ (hs.2 (by simpa using hwd))⟩
/-- A call of yield. -/
theorem yield_in {P : Program} {ops : Array Oper} {rest : List Oper} {o : Oper} (hg : o.guard = none) {x y : Operand} {T : TypeId} (hop : o.op = .call { callee := .value x, args := #[y], argTypes := #[T] })
    {l : Nat} (hx : a.eval x = .func (.yield l) #[] #[]) {R : Bool → World → Prop} (hr : RoundW P l (a.eval y) w R) (hn : ∀ b w', R b w' → wpListIn (fen none) 0 P ops Q rest (a.put o.dst (.bool b)) w') :
    wpListIn (fen none) 0 P ops Q (o :: rest) a w := by
  obtain ⟨f, tmps, assign, body, h1, h2⟩ := hr
  have hrun : (o.semAt none a.eval).run P w = .ok (.round l f tmps assign body) w := by
    rw [Oper.semAt_none]
    unfold execOp
    rw [hop]
    generalize a.eval = ρ at hx h1 ⊢
    simp [resolve, invoke, hx, go_sem, h1]
  unfold wpListIn
  rw [if_pos (by simp [Region.wanted, hg])]
  refine ⟨fun _ _ => trivial, ?_⟩
  show o.uponIn (fen none) 0 P a _ Q ((o.semAt none a.eval).run P w)
  rw [hrun]
  refine ⟨fun e => (Bool.false_ne_true e).elim, RoundIn.mono h2 fun e w' he => ?_⟩
  obtain ⟨b, rfl, hb⟩ := he
  exact hn b w' hb

/-- The base of a walk from here on: nothing that lies is turned. -/
def bare (C : Cfg) (w : World) (I : Imm) : Fx := ⟨C, w, I, fun _ => False, fun _ => false, fun _ => False, [], #[]⟩
theorem bare_fix (hfix : C.fix = []) {t : Nat} (e : (bare C w I).C.fix.contains t = true) : False := by
  have e : C.fix.contains t = true := e
  rw [hfix] at e
  cases e
theorem bare_open : (bare C w I).open := ⟨fun _ => rfl, fun _ h => h⟩
theorem RI.nil (hI : Imm.ok I w) (hfix : C.fix = []) (hs : a.tmps.size = C.n) (hd : a.defers = []) : RI (bare C w I) I (fun _ => none) ⟨[], []⟩ a w where
  imm := hI
  base := Imm.leRefl I
  inew := fun _ _ _ h => .inl h
  fr := ⟨rfl, rfl, rfl, Nat.le_refl _, fun _ _ _ => rfl⟩
  mine := fun _ _ h => by cases h
  defs := ⟨hd, fun t e => (bare_fix hfix e).elim⟩
  size := hs
  slots := fun l x hx => by cases l <;> cases hx
  boxes := fun k cs hk => by cases hk
  quiet := fun l x hx => by cases l <;> cases hx
  lk := ⟨fun b hb => hb.elim, fun k e => by cases e⟩
/-- Temporaries that never change any more, in a later world. -/
theorem RI.fresh {F0 : Fx} {I0 : Imm} {w0 : World} (h : RI F0 I0 own σ a w0) (hn : F0.C.n = C.n) (hfix : C.fix = []) (hds : F0.ds = []) {a2 : Act} (hs : a2.tmps.size = C.n) (hd : a2.defers = []) (hle : Imm.le I0 I) (hI : Imm.ok I w) (tm : List (Nat × AV))
    (ht : ∀ t x, look tm t = some x → look σ.tmps t = some x ∧ x.isImm = true ∧ a2.tmps[t]? = a.tmps[t]?) : RI (bare C w I) I (fun _ => none) ⟨tm, []⟩ a2 w := by
  refine (RI.nil (a := a2) hI hfix hs hd).make bare_open tm (fun _ _ e => by cases e) (fun _ _ e => by cases e) hs ⟨hd, fun t e => (bare_fix hfix e).elim⟩ (fun k cs e => by cases e) fun t x hx => ?_
  obtain ⟨h1, h2, h3⟩ := ht t x hx
  obtain ⟨v, e1, e2⟩ := h.slots (.tmp t) x h1
  exact ⟨v, h3.trans e1, .inr (.inl ⟨h2, (((srep_imm h2).1 e2).mono (fun _ h => h) hle).any _⟩)⟩
theorem RI.rstep {I2 : Imm} {w2 : World} (h : RI (bare C w I) I2 own σ a w2) : RStep w I [] w2 I2 [] :=
  ⟨⟨h.fr.os, h.fr.tape, h.fr.output, h.fr.size, fun k hk _ => h.fr.block k hk id⟩, h.base, h.imm, fun b o u e => by
    rcases h.inew b o u e with q | q | q
    · exact .inl q
    · exact .inr (.inl q)
    · exact q.elim, fun g hg => by cases hg⟩
end
end Go.Proofs.Ytnamkghgehfphaa.VA
end
section
/- Each: a function that hands an item's items to a loop. -/
namespace Go.Proofs.Ytnamkghgehfphaa.VA
set_option maxRecDepth 10000
set_option linter.unusedSimpArgs false
set_option linter.unusedVariables false
set_option maxHeartbeats 400000

theorem c_Each (it : ItemD) : Contract Try.prog 139 [it.av] (.ext (cloP 147 it.cells)) := by
  refine contract_of (C := cf 4 [1, 2] (fun _ => [])) (cf_ok _ _ _) (fn := Try.f139) Try.func139 (by kernel_rfl) rfl (by kernel_rfl) (by simp [cf]) (plain1 it.plain) (by decide) (noCell (by kernel_rfl)) ?_
  simp only [go_sem, ↓reduceIte, Nat.reduceLT, Nat.reduceLeDiff, Nat.reduceAdd, Nat.reduceSub, Nat.reduceMul, Nat.reduceEqDiff, Nat.reduceBEq, Nat.reduceMod, Nat.reduceDiv, Int.reduceToNat, reduceCtorEq, Int.reduceLT, Int.reduceLE, Int.reduceGT, Int.reduceGE, Int.reduceAdd, Int.reduceSub, Int.reduceMul, Int.reduceNeg, Int.reduceEq, Int.reduceNe, Int.reduceBNe, Int.reduceBEq, Int.reduceDiv, ItemD.av_eq, ItemD.cells]
  refine finOne ?_ (fun _ e => by cases e)
  show resOf _ _ [.tmp 2] = _
  simp only [go_sem, ↓reduceIte, Nat.reduceLT, Nat.reduceLeDiff, Nat.reduceAdd, Nat.reduceSub, Nat.reduceMul, Nat.reduceEqDiff, Nat.reduceBEq, Nat.reduceMod, Nat.reduceDiv, Int.reduceToNat, reduceCtorEq, Int.reduceLT, Int.reduceLE, Int.reduceGT, Int.reduceGE, Int.reduceAdd, Int.reduceSub, Int.reduceMul, Int.reduceNeg, Int.reduceEq, Int.reduceNe, Int.reduceBNe, Int.reduceBEq, Int.reduceDiv]
/-- What Each hands over. -/
def eachOf (it : ItemD) : List AV := if it.list = true then it.items.map ItemD.av else []
/-- The value of yield. -/
def yP (l : Nat) : Imm → Value → Prop := fun _ v => v = .func (.yield l) #[] #[]
def eachTm (l : Nat) (it : ItemD) (i : Nat) : List (Nat × AV) := [(0, .ext (yP l)), (9, .sl false 3 (it.items.map ItemD.av)), (10, .int .i64 it.items.length), (11, .int .i64 i)]
theorem put_same {a : Act} {t : Nat} {v : Value} (h : a.tmps[t]? = some v) : a.put (some t) v = a := by
  cases a with
  | mk tmps defers =>
    show Act.mk (tmps.setIfInBounds t v) defers = Act.mk tmps defers
    congr 1
    refine Array.ext_getElem? fun i => ?_
    by_cases e : t = i
    · subst e
      have hlt := (Array.getElem?_eq_some_iff.1 h).1
      rw [Array.getElem?_setIfInBounds_self_of_lt hlt]
      exact h.symm
    · rw [Array.getElem?_setIfInBounds_ne e]
theorem eval_tmp {a : Act} {t : Nat} {v : Value} (h : a.tmps[t]? = some v) : a.eval (.tmp t) = v := by
  simp [Act.eval, h]
section
variable {F : Fx} {I : Imm} {own : Nat → Option Loc} {σ : ASt} {a : Act} {w : World}
theorem RI.bool (h : RI F I own σ a w) {t : Nat} {b : Bool} (hl : look σ.tmps t = some (.bool b)) : a.eval (.tmp t) = .bool b := by
  obtain ⟨v, h1, h2⟩ := h.slots (.tmp t) _ hl
  have h2 := (srep_imm rfl).1 h2
  cases h2
  exact eval_tmp h1
theorem RI.val (h : RI F I own σ a w) {t : Nat} {x : AV} (hi : x.isImm = true) (hl : look σ.tmps t = some x) : AR F.mine I x (a.eval (.tmp t)) := by
  obtain ⟨v, h1, h2⟩ := h.slots (.tmp t) _ hl
  rw [eval_tmp h1]
  exact (srep_imm hi).1 h2
end
theorem look_cons {α : Type} {t k : Nat} {x y : α} {r : List (Nat × α)} (h : look ((k, y) :: r) t = some x) : (t = k ∧ x = y) ∨ look r t = some x := by
  unfold look at h
  split at h
  · rename_i e
    cases h
    exact .inl ⟨(by simpa using e), rfl⟩
  · exact .inr h
noncomputable def CE : Cfg := cf 21 [0, 4, 7, 9, 10, 11, 12, 15, 16, 17, 18, 19] (fun _ => [])
theorem iter_each (it : ItemD) (h : it.ok) : Iter Try.prog (cloP 147 it.cells) (eachOf it) := by
  rintro J v ⟨b, rfl, har⟩
  refine ⟨_, _, rfl, fun args w => by simp [go_sem], ?_⟩
  intro l Inv Stop gs I w hI hJ hgs h0 hstep hsstop hround
  have hlen := h.len
  unfold reachBytes at hlen
  have hok : CfgOk CE := cf_ok _ _ _
  have hfix : CE.fix = [] := rfl
  have hn : CE.n = 21 := rfl
  have hP : CE.P = Try.prog := rfl
  refine callsIn_wide.1 (callsIn_of_wp (F := Fence.wide) (n := 0) Try.func147 rfl trivial ?_)
  obtain ⟨R, hR⟩ : ∃ R : Ending → World → Prop, R = fun e w' => ∃ v gs I, e = .returned v ∧ (Inv (eachOf it).length gs I w' ∨ Stop gs I w') := ⟨_, rfl⟩
  rw [← hR]
  obtain ⟨Q, hQ⟩ : ∃ Q, Q = bodyPost Try.prog Try.f147 R := ⟨_, rfl⟩
  rw [← hQ]
  have hout : ∀ a w, ¬ Q .outgrown a w := fun a w e => by
    rw [hQ] at e
    have e : R .outgrown w := e
    rw [hR] at e
    obtain ⟨_, _, _, e, _⟩ := e
    cases e
  have hL0 : ¬ LetsOut Q := fun ⟨a, w, e⟩ => hout a w e
  have fin : ∀ (a : Act) (W : World) gs I', a.defers = [] → (Inv (eachOf it).length gs I' W ∨ Stop gs I' W) → (a.defers = [] ∧ ∃ v, (results Try.f147 a.tmps).run Try.prog W = .ok v W ∧ R (.returned v) W) := fun a W gs I' hd hi =>
    ⟨hd, .tuple #[], run_results (us := []) (by simp [go_sem]), by rw [hR]; exact ⟨_, gs, I', rfl, hi⟩⟩
  have finR : ∀ (a : Act) (W : World) gs I', a.defers = [] → (Inv (eachOf it).length gs I' W ∨ Stop gs I' W) → Q .ret a W := fun a W gs I' hd hi => by rw [hQ]; exact fin a W gs I' hd hi
  have finN : ∀ (a : Act) (W : World) gs I', a.defers = [] → (Inv (eachOf it).length gs I' W ∨ Stop gs I' W) → Q .normal a W := fun a W gs I' hd hi => by rw [hQ]; exact fin a W gs I' hd hi
  clear hQ
  obtain ⟨slv, hslv⟩ : ∃ slv : AV, slv = .sl false 3 [.agg it.cells] := ⟨_, rfl⟩
  have har2 : AR (fun _ => True) I (.sl false 3 [.agg it.cells]) (.slice (some ⟨b, 0, none⟩) 1 1) := (har : AR (fun _ => True) J (.sl false 3 [.agg it.cells]) _).mono (fun _ h => h) hJ
  -- the begin
  obtain ⟨yv, hyv⟩ : ∃ yv : Value, yv = .func (.yield l) #[] #[] := ⟨_, rfl⟩
  obtain ⟨pv, hpv⟩ : ∃ pv : Value, pv = .pointer (some ⟨b, 0, none⟩) := ⟨_, rfl⟩
  rw [← hyv, ← hpv]
  rw [show Try.f147.ntmps - (#[yv] ++ #[pv] : Array Value).size = 19 from by simp]
  obtain ⟨A, hA⟩ : ∃ A : Array Value, A = #[yv] ++ #[pv] ++ Array.replicate 19 undef := ⟨_, rfl⟩
  have hA0 : A[0]? = some yv := by rw [hA]; simp
  have hA1 : A[1]? = some pv := by rw [hA]; simp
  have hAs : A.size = CE.n := by rw [hA, hn]; simp
  rw [← hA]
  have hst : RI (bare CE w I) I (fun _ => none) ⟨[(0, .ext (yP l)), (1, .elt (.sl false 3 [.agg it.cells]) 0 0)], []⟩ { tmps := A, defers := [] } w := by
    have e0 := RI.nil (C := CE) (a := { tmps := A, defers := [] }) hI hfix hAs rfl
    have hm : ∀ t, t < 21 → (bare CE w I).C.may t = true := fun t ht => by
      show (decide (t < CE.n) && !CE.fix.contains t) = true
      rw [hfix, hn]; simp [ht]
    have e1 := e0.put (t := 0) (x := .ext (yP l)) (v := yv) (hm 0 (by decide)) rfl (fun _ _ _ e => by cases e) (fun _ e => by cases e) ((srep_imm rfl).2 (.ext _ I _ (fun _ _ _ e => e) (by rw [hyv]; rfl) hyv))
    rw [put_same hA0] at e1
    have e2 := e1.put (t := 1) (x := .elt (.sl false 3 [.agg it.cells]) 0 0) (v := pv) (hm 1 (by decide)) rfl (fun _ _ _ e => by cases e) (fun _ e => by cases e) ⟨b, 0, 1, 1, har2.any _, hpv⟩
    rw [put_same hA1] at e2
    exact e2
  refine wpIn_seq (wpIn_seq ?_)
  refine reg_in (C := CE) (K := fun τ => τ = ⟨[(0, .ext (yP l)), (1, .elt (.sl false 3 [.agg it.cells]) 0 0), (5, .elt (.sl false 3 [.agg it.cells]) 0 0), (6, .bool it.list), (7, .bool (!it.list))], []⟩) hok (by kernel_rfl) rfl bare_open hst ?_ (fun ⟨a, w, e⟩ => hout a w e) ?_
  · show exec CE (fun _ τ => τ = _) [.ops _ _] .normal _
    simp only [go_sem, ↓reduceIte, Nat.reduceLT, Nat.reduceLeDiff, Nat.reduceAdd, Nat.reduceSub, Nat.reduceMul, Nat.reduceEqDiff, Nat.reduceBEq, Nat.reduceMod, Nat.reduceDiv, Int.reduceToNat, reduceCtorEq, Int.reduceLT, Int.reduceLE, Int.reduceGT, Int.reduceGE, Int.reduceAdd, Int.reduceSub, Int.reduceMul, Int.reduceNeg, Int.reduceEq, Int.reduceNe, Int.reduceBNe, Int.reduceBEq, Int.reduceDiv, CE, ItemD.cells]
  rintro a1 w1 ⟨I1, own1, τ, q1, rfl⟩
  have hd1 : a1.defers = [] := q1.defs.1
  show Code.wpIn _ _ _ _ _ a1 w1
  cases hl : it.list with
  | false =>
    refine wpIn_cond_true (by rw [q1.bool (t := 7) rfl, hl]; rfl) (wpIn_ret ?_)
    refine finR a1 w1 gs I1 hd1 (.inl ?_)
    rw [show (eachOf it).length = 0 by unfold eachOf; rw [hl]; rfl]
    exact hstep 0 gs I w I1 w1 h0 q1.rstep
  | true =>
    have heach : eachOf it = it.items.map ItemD.av := by unfold eachOf; rw [hl]; rfl
    have hel : (eachOf it).length = it.items.length := by rw [heach, List.length_map]
    refine wpIn_cond_false (by rw [q1.bool (t := 7) rfl, hl]; rfl) (wpIn_skip ?_)
    show Code.wpIn _ _ _ _ _ a1 w1
    refine wpIn_seq ?_
    refine reg_in (C := CE) (K := fun τ => look τ.tmps 0 = some (.ext (yP l)) ∧ look τ.tmps 9 = some (.sl false 3 (it.items.map ItemD.av)) ∧ look τ.tmps 10 = some (.int .i64 it.items.length) ∧ look τ.tmps 11 = some (.int .i64 (0 : Nat))) hok (by kernel_rfl) rfl bare_open q1 ?_ (fun ⟨a, w, e⟩ => hout a w e) ?_
    · show exec CE (fun _ τ => look τ.tmps 0 = some (.ext (yP l)) ∧ look τ.tmps 9 = some (.sl false 3 (it.items.map ItemD.av)) ∧ look τ.tmps 10 = some (.int .i64 it.items.length) ∧ look τ.tmps 11 = some (.int .i64 (0 : Nat))) [.ops _ _] .normal _
      simp only [go_sem, ↓reduceIte, Nat.reduceLT, Nat.reduceLeDiff, Nat.reduceAdd, Nat.reduceSub, Nat.reduceMul, Nat.reduceEqDiff, Nat.reduceBEq, Nat.reduceMod, Nat.reduceDiv, Int.reduceToNat, reduceCtorEq, Int.reduceLT, Int.reduceLE, Int.reduceGT, Int.reduceGE, Int.reduceAdd, Int.reduceSub, Int.reduceMul, Int.reduceNeg, Int.reduceEq, Int.reduceNe, Int.reduceBNe, Int.reduceBEq, Int.reduceDiv, CE, ItemD.cells, List.length_map, Int.cast_ofNat_Int]
    rintro a2 w2 ⟨I2, own2, τ, q2, k0, k9, k10, k11⟩
    have heads : ∀ (i : Nat) (a : Act) (w' w0 : World) (I' I0 : Imm) (own : Nat → Option Loc) (τ : ASt), RI (bare CE w0 I0) I' own τ a w' → look τ.tmps 0 = some (.ext (yP l)) → look τ.tmps 9 = some (.sl false 3 (it.items.map ItemD.av)) → look τ.tmps 10 = some (.int .i64 it.items.length) →
        look τ.tmps 11 = some (.int .i64 (i : Nat)) → RI (bare CE w' I') I' (fun _ => none) ⟨eachTm l it i, []⟩ a w' := by
      intro i a w' w0 I' I0 own τ q k0 k9 k10 k11
      refine q.fresh (C := CE) rfl hfix rfl q.size q.defs.1 (Imm.leRefl _) q.imm _ fun t x hx => ?_
      unfold eachTm at hx
      rcases look_cons hx with ⟨rfl, rfl⟩ | hx
      · exact ⟨k0, rfl, rfl⟩
      rcases look_cons hx with ⟨rfl, rfl⟩ | hx
      · exact ⟨k9, rfl, rfl⟩
      rcases look_cons hx with ⟨rfl, rfl⟩ | hx
      · exact ⟨k10, rfl, rfl⟩
      rcases look_cons hx with ⟨rfl, rfl⟩ | hx
      · exact ⟨k11, rfl, rfl⟩
      cases hx
    have hst2 := heads 0 a2 w2 w I2 I own2 τ q2 k0 k9 k10 k11
    have hI2 : Inv 0 gs I2 w2 := hstep 0 gs I w I2 w2 h0 q2.rstep
    have hg2 : ∀ g, g ∈ gs → g < w2.heap.size := fun g hg => Nat.lt_of_lt_of_le (hgs g hg) q2.fr.size
    clear q2 k0 k9 k10 k11 hst q1
    show Code.wpIn _ _ _ _ _ a2 w2
    refine wpIn_block (wpIn_loop_rounds (it.items.length + 1) ?_)
    refine (fun key => key _ 0 gs I2 a2 w2 (by omega) (Nat.zero_le _) hst2 hI2 hg2 : (∀ m i gs I' a w', it.items.length + 1 - i ≤ m → i ≤ it.items.length → RI (bare CE w' I') I' (fun _ => none) ⟨eachTm l it i, []⟩ a w' → Inv i gs I' w' → (∀ g, g ∈ gs → g < w'.heap.size) → Code.roundsIn _ _ _ _ _ m a w') → _) ?_
    intro m
    induction m with
    | zero => intro i gs I' a w' h1 h2; omega
    | succ m ih =>
      intro i gs I' a w' h1 h2 q hi hg
      rw [roundsIn_succ]
      refine wpIn_seq (reg_in (C := CE) (K := fun τ => τ = ⟨[(0, .ext (yP l)), (9, .sl false 3 (it.items.map ItemD.av)), (10, .int .i64 it.items.length), (11, .int .i64 i), (12, .bool (decide ((i : Int) < it.items.length)))], []⟩) hok (by kernel_rfl) rfl bare_open q ?_ (fun ⟨a, w, e⟩ => hout a w e) ?_)
      · show exec CE (fun _ τ => τ = _) [.ops _ _] .normal _
        unfold eachTm
        simp only [go_sem, ↓reduceIte, Nat.reduceLT, Nat.reduceLeDiff, Nat.reduceAdd, Nat.reduceSub, Nat.reduceMul, Nat.reduceEqDiff, Nat.reduceBEq, Nat.reduceMod, Nat.reduceDiv, Int.reduceToNat, reduceCtorEq, Int.reduceLT, Int.reduceLE, Int.reduceGT, Int.reduceGE, Int.reduceAdd, Int.reduceSub, Int.reduceMul, Int.reduceNeg, Int.reduceEq, Int.reduceNe, Int.reduceBNe, Int.reduceBEq, Int.reduceDiv, CE]
      rintro a3 w3 ⟨I3, own3, τ, q3, rfl⟩
      have hd3 : a3.defers = [] := q3.defs.1
      have hi3 : Inv i gs I3 w3 := hstep i gs I' w' I3 w3 hi q3.rstep
      have hg3 : ∀ g, g ∈ gs → g < w3.heap.size := fun g h => Nat.lt_of_lt_of_le (hg g h) q3.fr.size
      refine wpIn_seq ?_
      rcases Decidable.em (i < it.items.length) with hlt | hge
      case inr =>
        have e : i = it.items.length := by omega
        subst e
        refine wpIn_cond_false (by rw [q3.bool (t := 12) rfl]; simp) (wpIn_exit ?_)
        exact finN a3 w3 gs I3 hd3 (.inl (by rw [hel]; exact hi3))
      obtain ⟨x, ex⟩ : ∃ x, it.items[i]? = some x := ⟨_, List.getElem?_eq_getElem hlt⟩
      have hxo := h.all x (List.mem_of_getElem? ex)
      refine wpIn_cond_true (by rw [q3.bool (t := 12) rfl]; simp [hlt]) (wpIn_skip ?_)
      refine wpIn_seq (wpIn_block ?_)
      refine wpIn_seq (reg_in (C := CE) (K := fun τ => τ = ⟨[(0, .ext (yP l)), (4, .var 4 0), (9, .sl false 3 (it.items.map ItemD.av)), (10, .int .i64 it.items.length), (11, .int .i64 i), (12, .bool (decide ((i : Int) < it.items.length))), (13, .elt (.sl false 3 (it.items.map ItemD.av)) i 0), (14, .agg x.cells)], [(4, x.cells)]⟩) hok (by kernel_rfl) rfl bare_open q3 ?_ (fun ⟨a, w, e⟩ => hout a w e) ?_)
      · show exec CE (fun _ τ => τ = _) [.ops _ _] .normal _
        simp only [go_sem, ↓reduceIte, Nat.reduceLT, Nat.reduceLeDiff, Nat.reduceAdd, Nat.reduceSub, Nat.reduceMul, Nat.reduceEqDiff, Nat.reduceBEq, Nat.reduceMod, Nat.reduceDiv, Int.reduceToNat, reduceCtorEq, Int.reduceLT, Int.reduceLE, Int.reduceGT, Int.reduceGE, Int.reduceAdd, Int.reduceSub, Int.reduceMul, Int.reduceNeg, Int.reduceEq, Int.reduceNe, Int.reduceBNe, Int.reduceBEq, Int.reduceDiv, CE, List.length_map, List.getElem?_map, ex, Int.toNat_natCast, ItemD.av_eq]
        repeat with_reducible refine And.intro (by first | omega | (simp only [List.length_cons, List.length_append, List.length_nil, List.length_map, List.length_take, List.length_drop, List.length_set]; omega)) ?_
        simp only [go_sem, ↓reduceIte, Nat.reduceLT, Nat.reduceLeDiff, Nat.reduceAdd, Nat.reduceSub, Nat.reduceMul, Nat.reduceEqDiff, Nat.reduceBEq, Nat.reduceMod, Nat.reduceDiv, Int.reduceToNat, reduceCtorEq, Int.reduceLT, Int.reduceLE, Int.reduceGT, Int.reduceGE, Int.reduceAdd, Int.reduceSub, Int.reduceMul, Int.reduceNeg, Int.reduceEq, Int.reduceNe, Int.reduceBNe, Int.reduceBEq, Int.reduceDiv, CE, cellsI_len]
      rintro a4 w4 ⟨I4, own4, τ, q4, rfl⟩
      refine wpIn_seq (wpIn_region_lit ?_)
      refine op_in (C := CE) (K := fun τ => τ = ⟨[(0, .ext (yP l)), (4, .var 4 0), (9, .sl false 3 (it.items.map ItemD.av)), (10, .int .i64 it.items.length), (11, .int .i64 i), (12, .bool (decide ((i : Int) < it.items.length))), (13, .elt (.sl false 3 (it.items.map ItemD.av)) i 0), (14, .agg x.cells), (15, .ext (yP l))], [(4, x.cells)]⟩) hok (fun c e => by cases e) rfl bare_open q4 ?_ ?_
      · show exec CE (fun _ τ => τ = _) [.ops _ [_]] .normal _
        simp only [go_sem, ↓reduceIte, Nat.reduceLT, Nat.reduceLeDiff, Nat.reduceAdd, Nat.reduceSub, Nat.reduceMul, Nat.reduceEqDiff, Nat.reduceBEq, Nat.reduceMod, Nat.reduceDiv, Int.reduceToNat, reduceCtorEq, Int.reduceLT, Int.reduceLE, Int.reduceGT, Int.reduceGE, Int.reduceAdd, Int.reduceSub, Int.reduceMul, Int.reduceNeg, Int.reduceEq, Int.reduceNe, Int.reduceBNe, Int.reduceBEq, Int.reduceDiv, CE, cellsI_len]
      rintro a5 w5 ⟨I5, own5, τ, q5, rfl⟩
      refine op_in (C := CE) (K := fun τ => τ = ⟨[(0, .ext (yP l)), (4, .var 4 0), (9, .sl false 3 (it.items.map ItemD.av)), (10, .int .i64 it.items.length), (11, .int .i64 i), (12, .bool (decide ((i : Int) < it.items.length))), (13, .elt (.sl false 3 (it.items.map ItemD.av)) i 0), (14, .agg x.cells), (15, .ext (yP l)), (16, .agg x.cells)], [(4, x.cells)]⟩) hok (fun c e => by cases e) rfl bare_open q5 ?_ ?_
      · show exec CE (fun _ τ => τ = _) [.ops _ [_]] .normal _
        simp only [go_sem, ↓reduceIte, Nat.reduceLT, Nat.reduceLeDiff, Nat.reduceAdd, Nat.reduceSub, Nat.reduceMul, Nat.reduceEqDiff, Nat.reduceBEq, Nat.reduceMod, Nat.reduceDiv, Int.reduceToNat, reduceCtorEq, Int.reduceLT, Int.reduceLE, Int.reduceGT, Int.reduceGE, Int.reduceAdd, Int.reduceSub, Int.reduceMul, Int.reduceNeg, Int.reduceEq, Int.reduceNe, Int.reduceBNe, Int.reduceBEq, Int.reduceDiv, CE, ItemD.cells]
      rintro a6 w6 ⟨I6, own6, τ, q6, rfl⟩
      refine op_in (C := CE) (K := fun τ => τ = ⟨[(0, .ext (yP l)), (4, .var 4 0), (9, .sl false 3 (it.items.map ItemD.av)), (10, .int .i64 it.items.length), (11, .int .i64 i), (12, .bool (decide ((i : Int) < it.items.length))), (13, .elt (.sl false 3 (it.items.map ItemD.av)) i 0), (14, .agg x.cells), (15, .ext (yP l)), (16, .agg x.cells), (17, x.av)], [(4, x.cells)]⟩) hok (fun c e => by cases e) rfl bare_open q6 ?_ ?_
      · show exec CE (fun _ τ => τ = _) [.ops _ [_]] .normal _
        simp only [go_sem, ↓reduceIte, Nat.reduceLT, Nat.reduceLeDiff, Nat.reduceAdd, Nat.reduceSub, Nat.reduceMul, Nat.reduceEqDiff, Nat.reduceBEq, Nat.reduceMod, Nat.reduceDiv, Int.reduceToNat, reduceCtorEq, Int.reduceLT, Int.reduceLE, Int.reduceGT, Int.reduceGE, Int.reduceAdd, Int.reduceSub, Int.reduceMul, Int.reduceNeg, Int.reduceEq, Int.reduceNe, Int.reduceBNe, Int.reduceBEq, Int.reduceDiv, CE, cellsI_len]
        have hc := c_copied x hxo
        rw [show [x.av] = [AV.agg x.cells] by rw [x.av_eq]] at hc
        refine ex_call (by exact hc) ?_
        rw [x.av_eq]
        simp only [go_sem, ↓reduceIte, Nat.reduceLT, Nat.reduceLeDiff, Nat.reduceAdd, Nat.reduceSub, Nat.reduceMul, Nat.reduceEqDiff, Nat.reduceBEq, Nat.reduceMod, Nat.reduceDiv, Int.reduceToNat, reduceCtorEq, Int.reduceLT, Int.reduceLE, Int.reduceGT, Int.reduceGE, Int.reduceAdd, Int.reduceSub, Int.reduceMul, Int.reduceNeg, Int.reduceEq, Int.reduceNe, Int.reduceBNe, Int.reduceBEq, Int.reduceDiv, CE, cellsI_len]
      rintro a7 w7 ⟨I7, own7, τ, q7, rfl⟩
      have hd7 : a7.defers = [] := q7.defs.1
      have hi7 : Inv i gs I7 w7 := hstep i gs I' w' I7 w7 hi q7.rstep
      have hg7 : ∀ g, g ∈ gs → g < w7.heap.size := fun g h => Nat.lt_of_lt_of_le (hg g h) q7.fr.size
      have hy : a7.eval (.tmp 15) = .func (.yield l) #[] #[] := by
        have e := q7.val (t := 15) (x := .ext (yP l)) rfl rfl
        cases e with
        | ext p J' v hJ h1 hp => exact hp
      have hxa := (q7.val (t := 17) (x := x.av) (by rw [x.av_eq]; rfl) rfl).any (fun _ => True)
      refine yield_in rfl rfl hy (hround i x.av _ gs I7 w7 (by rw [heach, List.getElem?_map, ex]; rfl) hi7 q7.imm hxa) ?_
      rintro bb w8 ⟨gs8, I8, hs8, hb8⟩
      have q8 : RI (bare CE w8 I8) I8 (fun _ => none) ⟨[(0, .ext (yP l)), (9, .sl false 3 (it.items.map ItemD.av)), (10, .int .i64 it.items.length), (11, .int .i64 i), (18, .bool bb)], []⟩ (a7.put (some 18) (.bool bb)) w8 := by
        have e := q7.fresh (C := CE) (a2 := a7.put (some 18) (.bool bb)) rfl hfix rfl (by show (a7.tmps.setIfInBounds 18 _).size = _; rw [Array.size_setIfInBounds]; exact q7.size) hd7 hs8.le hs8.ok (eachTm l it i) (fun t x hx => by
          have hne : ∀ t, t ≠ 18 → (a7.put (some 18) (.bool bb)).tmps[t]? = a7.tmps[t]? := fun t ht => Array.getElem?_setIfInBounds_ne (Ne.symm ht)
          unfold eachTm at hx
          rcases look_cons hx with ⟨rfl, rfl⟩ | hx
          · exact ⟨rfl, rfl, hne _ (by decide)⟩
          rcases look_cons hx with ⟨rfl, rfl⟩ | hx
          · exact ⟨rfl, rfl, hne _ (by decide)⟩
          rcases look_cons hx with ⟨rfl, rfl⟩ | hx
          · exact ⟨rfl, rfl, hne _ (by decide)⟩
          rcases look_cons hx with ⟨rfl, rfl⟩ | hx
          · exact ⟨rfl, rfl, hne _ (by decide)⟩
          cases hx)
        have hlt : 18 < a7.tmps.size := by rw [q7.size]; exact (by decide : 18 < 21)
        have e2 := e.put (t := 18) (x := .bool bb) (v := .bool bb) rfl rfl (fun _ _ _ e => by cases e) (fun _ e => by cases e) ((srep_imm rfl).2 (.bool _))
        rw [put_same (t := 18) (v := .bool bb) (show (a7.tmps.setIfInBounds 18 _)[18]? = _ from Array.getElem?_setIfInBounds_self_of_lt hlt)] at e2
        exact e2
      refine op_in (C := CE) (K := fun τ => τ = ⟨[(0, .ext (yP l)), (9, .sl false 3 (it.items.map ItemD.av)), (10, .int .i64 it.items.length), (11, .int .i64 i), (18, .bool bb), (19, .bool (!bb))], []⟩) hok (fun c e => by cases e) rfl bare_open q8 ?_ ?_
      · show exec CE (fun _ τ => τ = _) [.ops _ [_]] .normal _
        simp only [go_sem, ↓reduceIte, Nat.reduceLT, Nat.reduceLeDiff, Nat.reduceAdd, Nat.reduceSub, Nat.reduceMul, Nat.reduceEqDiff, Nat.reduceBEq, Nat.reduceMod, Nat.reduceDiv, Int.reduceToNat, reduceCtorEq, Int.reduceLT, Int.reduceLE, Int.reduceGT, Int.reduceGE, Int.reduceAdd, Int.reduceSub, Int.reduceMul, Int.reduceNeg, Int.reduceEq, Int.reduceNe, Int.reduceBNe, Int.reduceBEq, Int.reduceDiv, CE]
      rintro a9 w9 ⟨I9, own9, τ, q9, rfl⟩
      refine wpListIn_nil ?_
      cases bb with
      | false =>
        refine wpIn_cond_true (q9.bool (t := 19) rfl) (wpIn_ret ?_)
        refine finR a9 w9 gs8 I9 q9.defs.1 (.inr ?_)
        rcases hb8 with ⟨e, _⟩ | ⟨_, e⟩
        · cases e
        · exact hsstop gs8 I8 w8 I9 w9 e q9.rstep
      | true =>
        have hi8 : Inv (i + 1) gs8 I8 w8 := by
          rcases hb8 with ⟨_, e⟩ | ⟨e, _⟩
          · exact e
          · cases e
        refine wpIn_cond_false (q9.bool (t := 19) rfl) (wpIn_skip ?_)
        show Code.wpIn _ _ _ _ _ a9 w9
        refine reg_in (C := CE) (K := fun τ => τ = ⟨[(0, .ext (yP l)), (9, .sl false 3 (it.items.map ItemD.av)), (10, .int .i64 it.items.length), (11, .int .i64 (i + 1 : Nat)), (18, .bool true), (19, .bool (!true)), (20, .int .i64 (i + 1 : Nat))], []⟩) hok (by kernel_rfl) rfl bare_open q9 ?_ (fun ⟨a, w, e⟩ => hout a w e) ?_
        · show exec CE (fun _ τ => τ = _) [.ops _ _] .normal _
          rw [← wi64_nat i (by omega)]
          simp only [go_sem, ↓reduceIte, Nat.reduceLT, Nat.reduceLeDiff, Nat.reduceAdd, Nat.reduceSub, Nat.reduceMul, Nat.reduceEqDiff, Nat.reduceBEq, Nat.reduceMod, Nat.reduceDiv, Int.reduceToNat, reduceCtorEq, Int.reduceLT, Int.reduceLE, Int.reduceGT, Int.reduceGE, Int.reduceAdd, Int.reduceSub, Int.reduceMul, Int.reduceNeg, Int.reduceEq, Int.reduceNe, Int.reduceBNe, Int.reduceBEq, Int.reduceDiv, CE]
        rintro aa ww ⟨II, ownn, τ, qq, rfl⟩
        exact ih (i + 1) gs8 II aa ww (by omega) (by omega) (heads (i + 1) aa ww _ _ _ _ _ qq rfl rfl rfl rfl) (hstep _ _ _ _ _ _ hi8 qq.rstep) (fun g hg => Nat.lt_of_lt_of_le (hs8.mine g hg).2 qq.fr.size)
end Go.Proofs.Ytnamkghgehfphaa.VA
end
section
/- Items' bytes: the page's own; what is laid. -/
namespace Go.Proofs.Ytnamkghgehfphaa.VA
set_option maxRecDepth 10000
set_option linter.unusedSimpArgs false
set_option linter.unusedVariables false
set_option maxHeartbeats 1000000

theorem c_item_Check (it : ItemD) (h : it.ok) : Contract Try.prog 130 [it.av] (.int .i64 (if okI 0 it = true then 0 else 1)) := by
  have hc := c_item_long it h 0 (by omega)
  rw [ItemD.av_eq] at hc
  refine contract_of (C := cf 12 [1, 2, 4, 11] (fun _ => [])) (cf_ok _ _ _) (fn := Try.f130) Try.func130 (by kernel_rfl) rfl (by kernel_rfl) (by simp [cf]) (plain1 it.plain) (by decide) (noCell (by kernel_rfl)) ?_
  cases ho : okI 0 it with
  | true =>
    rw [ho] at hc
    simp only [go_sem, ↓reduceIte, Nat.reduceLT, Nat.reduceLeDiff, Nat.reduceAdd, Nat.reduceSub, Nat.reduceMul, Nat.reduceEqDiff, Nat.reduceBEq, Nat.reduceMod, Nat.reduceDiv, Int.reduceToNat, reduceCtorEq, Int.reduceLT, Int.reduceLE, Int.reduceGT, Int.reduceGE, Int.reduceAdd, Int.reduceSub, Int.reduceMul, Int.reduceNeg, Int.reduceEq, Int.reduceNe, Int.reduceBNe, Int.reduceBEq, Int.reduceDiv, ItemD.av_eq, ItemD.cells]
    refine ex_call (by exact hc) ?_
    simp only [go_sem, ↓reduceIte, Nat.reduceLT, Nat.reduceLeDiff, Nat.reduceAdd, Nat.reduceSub, Nat.reduceMul, Nat.reduceEqDiff, Nat.reduceBEq, Nat.reduceMod, Nat.reduceDiv, Int.reduceToNat, reduceCtorEq, Int.reduceLT, Int.reduceLE, Int.reduceGT, Int.reduceGE, Int.reduceAdd, Int.reduceSub, Int.reduceMul, Int.reduceNeg, Int.reduceEq, Int.reduceNe, Int.reduceBNe, Int.reduceBEq, Int.reduceDiv]
    refine finOne ?_ (fun _ e => by cases e)
    show resOf _ _ [.tmp 2] = _
    simp only [go_sem, ↓reduceIte, Nat.reduceLT, Nat.reduceLeDiff, Nat.reduceAdd, Nat.reduceSub, Nat.reduceMul, Nat.reduceEqDiff, Nat.reduceBEq, Nat.reduceMod, Nat.reduceDiv, Int.reduceToNat, reduceCtorEq, Int.reduceLT, Int.reduceLE, Int.reduceGT, Int.reduceGE, Int.reduceAdd, Int.reduceSub, Int.reduceMul, Int.reduceNeg, Int.reduceEq, Int.reduceNe, Int.reduceBNe, Int.reduceBEq, Int.reduceDiv]
  | false =>
    rw [ho] at hc
    simp only [go_sem, ↓reduceIte, Nat.reduceLT, Nat.reduceLeDiff, Nat.reduceAdd, Nat.reduceSub, Nat.reduceMul, Nat.reduceEqDiff, Nat.reduceBEq, Nat.reduceMod, Nat.reduceDiv, Int.reduceToNat, reduceCtorEq, Int.reduceLT, Int.reduceLE, Int.reduceGT, Int.reduceGE, Int.reduceAdd, Int.reduceSub, Int.reduceMul, Int.reduceNeg, Int.reduceEq, Int.reduceNe, Int.reduceBNe, Int.reduceBEq, Int.reduceDiv, ItemD.av_eq, ItemD.cells]
    refine ex_call (by exact hc) ?_
    simp only [go_sem, ↓reduceIte, Nat.reduceLT, Nat.reduceLeDiff, Nat.reduceAdd, Nat.reduceSub, Nat.reduceMul, Nat.reduceEqDiff, Nat.reduceBEq, Nat.reduceMod, Nat.reduceDiv, Int.reduceToNat, reduceCtorEq, Int.reduceLT, Int.reduceLE, Int.reduceGT, Int.reduceGE, Int.reduceAdd, Int.reduceSub, Int.reduceMul, Int.reduceNeg, Int.reduceEq, Int.reduceNe, Int.reduceBNe, Int.reduceBEq, Int.reduceDiv]
    refine finOne ?_ (fun _ e => by cases e)
    show resOf _ _ [.tmp 2] = _
    simp only [go_sem, ↓reduceIte, Nat.reduceLT, Nat.reduceLeDiff, Nat.reduceAdd, Nat.reduceSub, Nat.reduceMul, Nat.reduceEqDiff, Nat.reduceBEq, Nat.reduceMod, Nat.reduceDiv, Int.reduceToNat, reduceCtorEq, Int.reduceLT, Int.reduceLE, Int.reduceGT, Int.reduceGE, Int.reduceAdd, Int.reduceSub, Int.reduceMul, Int.reduceNeg, Int.reduceEq, Int.reduceNe, Int.reduceBNe, Int.reduceBEq, Int.reduceDiv]
theorem c_ref4_deep (it : ItemD) (h : it.ok) : Contract Try.prog 133 [it.av] (.int .i64 (deepR it)) := by
  have ih : ∀ x, x ∈ it.items → Contract Try.prog 133 [x.av] (.int .i64 (deepR x)) := fun x hx => c_ref4_deep x (h.all x hx)
  have hn := h.num
  cases hl : it.list with
  | false =>
    refine contract_of (C := cf 32 [1, 2, 3, 4, 7, 11, 14, 19] (fun _ => [])) (cf_ok _ _ _) (fn := Try.f133) Try.func133 (by kernel_rfl) rfl (by kernel_rfl) (by simp [cf]) (plain1 it.plain) (by decide) (noCell (by kernel_rfl)) ?_
    rw [deepR_text hl]
    simp only [go_sem, ↓reduceIte, Nat.reduceLT, Nat.reduceLeDiff, Nat.reduceAdd, Nat.reduceSub, Nat.reduceMul, Nat.reduceEqDiff, Nat.reduceBEq, Nat.reduceMod, Nat.reduceDiv, Int.reduceToNat, reduceCtorEq, Int.reduceLT, Int.reduceLE, Int.reduceGT, Int.reduceGE, Int.reduceAdd, Int.reduceSub, Int.reduceMul, Int.reduceNeg, Int.reduceEq, Int.reduceNe, Int.reduceBNe, Int.reduceBEq, Int.reduceDiv, ItemD.av_eq, ItemD.cells, hl, List.length_map]
    refine ex_br (fun e => ?_) (fun e => ?_)
    · have e : it.items.isEmpty = false := by
        cases hq : it.items with
        | nil => rw [hq] at e; simp at e
        | cons a l => rfl
      rw [e]
      simp only [go_sem, ↓reduceIte, Nat.reduceLT, Nat.reduceLeDiff, Nat.reduceAdd, Nat.reduceSub, Nat.reduceMul, Nat.reduceEqDiff, Nat.reduceBEq, Nat.reduceMod, Nat.reduceDiv, Int.reduceToNat, reduceCtorEq, Int.reduceLT, Int.reduceLE, Int.reduceGT, Int.reduceGE, Int.reduceAdd, Int.reduceSub, Int.reduceMul, Int.reduceNeg, Int.reduceEq, Int.reduceNe, Int.reduceBNe, Int.reduceBEq, Int.reduceDiv]
      refine finOne ?_ (fun _ e => by cases e)
      show resOf _ _ [.tmp 2] = _
      simp only [go_sem, ↓reduceIte, Nat.reduceLT, Nat.reduceLeDiff, Nat.reduceAdd, Nat.reduceSub, Nat.reduceMul, Nat.reduceEqDiff, Nat.reduceBEq, Nat.reduceMod, Nat.reduceDiv, Int.reduceToNat, reduceCtorEq, Int.reduceLT, Int.reduceLE, Int.reduceGT, Int.reduceGE, Int.reduceAdd, Int.reduceSub, Int.reduceMul, Int.reduceNeg, Int.reduceEq, Int.reduceNe, Int.reduceBNe, Int.reduceBEq, Int.reduceDiv]
      rfl
    · have e : it.items.isEmpty = true := by
        cases hq : it.items with
        | nil => rfl
        | cons a l => rw [hq] at e; simp at e
      rw [e]
      simp only [go_sem, ↓reduceIte, Nat.reduceLT, Nat.reduceLeDiff, Nat.reduceAdd, Nat.reduceSub, Nat.reduceMul, Nat.reduceEqDiff, Nat.reduceBEq, Nat.reduceMod, Nat.reduceDiv, Int.reduceToNat, reduceCtorEq, Int.reduceLT, Int.reduceLE, Int.reduceGT, Int.reduceGE, Int.reduceAdd, Int.reduceSub, Int.reduceMul, Int.reduceNeg, Int.reduceEq, Int.reduceNe, Int.reduceBNe, Int.reduceBEq, Int.reduceDiv]
      refine finOne ?_ (fun _ e => by cases e)
      show resOf _ _ [.tmp 2] = _
      simp only [go_sem, ↓reduceIte, Nat.reduceLT, Nat.reduceLeDiff, Nat.reduceAdd, Nat.reduceSub, Nat.reduceMul, Nat.reduceEqDiff, Nat.reduceBEq, Nat.reduceMod, Nat.reduceDiv, Int.reduceToNat, reduceCtorEq, Int.reduceLT, Int.reduceLE, Int.reduceGT, Int.reduceGE, Int.reduceAdd, Int.reduceSub, Int.reduceMul, Int.reduceNeg, Int.reduceEq, Int.reduceNe, Int.reduceBNe, Int.reduceBEq, Int.reduceDiv]
      rfl
  | true =>
    refine contract_of (C := cf 32 [1, 2, 3, 4, 7, 11, 14, 19] (fun _ => [])) (cf_ok _ _ _) (fn := Try.f133) Try.func133 (by kernel_rfl) rfl (by kernel_rfl) (by simp [cf]) (plain1 it.plain) (by decide) (noCell (by kernel_rfl)) ?_
    rw [deepR_list hl]
    cases hq : it.text with
    | cons a l =>
      have e1 : ((a :: l) == ([] : List UInt8)) = false := rfl
      simp only [go_sem, ↓reduceIte, Nat.reduceLT, Nat.reduceLeDiff, Nat.reduceAdd, Nat.reduceSub, Nat.reduceMul, Nat.reduceEqDiff, Nat.reduceBEq, Nat.reduceMod, Nat.reduceDiv, Int.reduceToNat, reduceCtorEq, Int.reduceLT, Int.reduceLE, Int.reduceGT, Int.reduceGE, Int.reduceAdd, Int.reduceSub, Int.reduceMul, Int.reduceNeg, Int.reduceEq, Int.reduceNe, Int.reduceBNe, Int.reduceBEq, Int.reduceDiv, ItemD.av_eq, ItemD.cells, hl, hq, List.length_map, e1]
      refine finOne ?_ (fun _ e => by cases e)
      show resOf _ _ [.tmp 2] = _
      simp only [go_sem, ↓reduceIte, Nat.reduceLT, Nat.reduceLeDiff, Nat.reduceAdd, Nat.reduceSub, Nat.reduceMul, Nat.reduceEqDiff, Nat.reduceBEq, Nat.reduceMod, Nat.reduceDiv, Int.reduceToNat, reduceCtorEq, Int.reduceLT, Int.reduceLE, Int.reduceGT, Int.reduceGE, Int.reduceAdd, Int.reduceSub, Int.reduceMul, Int.reduceNeg, Int.reduceEq, Int.reduceNe, Int.reduceBNe, Int.reduceBEq, Int.reduceDiv]
      rfl
    | nil =>
      simp only [go_sem, ↓reduceIte, Nat.reduceLT, Nat.reduceLeDiff, Nat.reduceAdd, Nat.reduceSub, Nat.reduceMul, Nat.reduceEqDiff, Nat.reduceBEq, Nat.reduceMod, Nat.reduceDiv, Int.reduceToNat, reduceCtorEq, Int.reduceLT, Int.reduceLE, Int.reduceGT, Int.reduceGE, Int.reduceAdd, Int.reduceSub, Int.reduceMul, Int.reduceNeg, Int.reduceEq, Int.reduceNe, Int.reduceBNe, Int.reduceBEq, Int.reduceDiv, ItemD.av_eq, ItemD.cells, hl, hq, List.length_map]
      refine ex_iter [1, 3, 4] (fun q : Nat × Nat => ⟨[(1, .var 1 0), (3, .int .i64 (q.2 : Nat)), (4, .int .i64 (q.1 : Nat))], [(1, [.bool true, .str [], .sl false 3 (it.items.map ItemD.av)])]⟩)
        (fun q => q.1 ≤ it.items.length ∧ q.2 ≤ 16777300 ∧ deepsR q.2 (it.items.drop q.1) = deepsR 0 it.items) (fun q => it.items.length - q.1) (0, 0) ?_ ?_ ?_
      · simp only [ASt.keep, consIf, keepL, keepV, AV.isBot, List.contains_cons, List.contains_nil, Nat.reduceBEq, Bool.or_false, Bool.false_or, Bool.or_true, Bool.true_or, beq_self_eq_true, Bool.false_eq_true, ↓reduceIte, if_false, if_true]
        rfl
      · exact ⟨Nat.zero_le _, by simp only; omega, rfl⟩
      · rintro r ⟨i, n⟩ hinv next
        obtain ⟨hi, hn2, hw⟩ : i ≤ it.items.length ∧ n ≤ 16777300 ∧ deepsR n (it.items.drop i) = deepsR 0 it.items := hinv
        simp only [go_sem, ↓reduceIte, Nat.reduceLT, Nat.reduceLeDiff, Nat.reduceAdd, Nat.reduceSub, Nat.reduceMul, Nat.reduceEqDiff, Nat.reduceBEq, Nat.reduceMod, Nat.reduceDiv, Int.reduceToNat, reduceCtorEq, Int.reduceLT, Int.reduceLE, Int.reduceGT, Int.reduceGE, Int.reduceAdd, Int.reduceSub, Int.reduceMul, Int.reduceNeg, Int.reduceEq, Int.reduceNe, Int.reduceBNe, Int.reduceBEq, Int.reduceDiv, List.length_map]
        refine ex_br (fun hc => ?_) (fun hc => ?_)
        · have hlt : i < it.items.length := by simpa using hc
          obtain ⟨x, ex⟩ : ∃ x, it.items[i]? = some x := ⟨_, List.getElem?_eq_getElem hlt⟩
          have hm := List.mem_of_getElem? ex
          have hx := ih x hm
          have hb := deepR_wt x
          have hb2 := h.all x hm
          unfold ItemD.ok at hb2
          rw [ItemD.av_eq] at hx
          have hdr : deepsR n (it.items.drop i) = deepsR (max n (deepR x)) (it.items.drop (i + 1)) := by
            obtain ⟨h1, rfl⟩ := List.getElem?_eq_some_iff.1 ex
            rw [← List.getElem_cons_drop h1, deepsR_cons]
          simp only [go_sem, ↓reduceIte, Nat.reduceLT, Nat.reduceLeDiff, Nat.reduceAdd, Nat.reduceSub, Nat.reduceMul, Nat.reduceEqDiff, Nat.reduceBEq, Nat.reduceMod, Nat.reduceDiv, Int.reduceToNat, reduceCtorEq, Int.reduceLT, Int.reduceLE, Int.reduceGT, Int.reduceGE, Int.reduceAdd, Int.reduceSub, Int.reduceMul, Int.reduceNeg, Int.reduceEq, Int.reduceNe, Int.reduceBNe, Int.reduceBEq, Int.reduceDiv, List.length_map, List.getElem?_map, ex, Int.toNat_natCast, ItemD.av_eq, ItemD.cells]
          repeat with_reducible refine And.intro (by first | omega | (simp only [List.length_cons, List.length_append, List.length_nil, List.length_map, List.length_take, List.length_drop, List.length_set]; omega)) ?_
          try simp only [go_sem, ↓reduceIte, Nat.reduceLT, Nat.reduceLeDiff, Nat.reduceAdd, Nat.reduceSub, Nat.reduceMul, Nat.reduceEqDiff, Nat.reduceBEq, Nat.reduceMod, Nat.reduceDiv, Int.reduceToNat, reduceCtorEq, Int.reduceLT, Int.reduceLE, Int.reduceGT, Int.reduceGE, Int.reduceAdd, Int.reduceSub, Int.reduceMul, Int.reduceNeg, Int.reduceEq, Int.reduceNe, Int.reduceBNe, Int.reduceBEq, Int.reduceDiv, ItemD.cells]
          refine ex_call (by exact hx) ?_
          simp only [go_sem, ↓reduceIte, Nat.reduceLT, Nat.reduceLeDiff, Nat.reduceAdd, Nat.reduceSub, Nat.reduceMul, Nat.reduceEqDiff, Nat.reduceBEq, Nat.reduceMod, Nat.reduceDiv, Int.reduceToNat, reduceCtorEq, Int.reduceLT, Int.reduceLE, Int.reduceGT, Int.reduceGE, Int.reduceAdd, Int.reduceSub, Int.reduceMul, Int.reduceNeg, Int.reduceEq, Int.reduceNe, Int.reduceBNe, Int.reduceBEq, Int.reduceDiv]
          refine next (i + 1, max n (deepR x)) _ ⟨by simp only; omega, by simp only; omega, by simp only; rw [← hdr]; exact hw⟩ (by simp only; omega) ?_
          simp only
          rw [← wi64_nat i (by omega), ← max_nat]
          simp only [ASt.keep, consIf, keepL, keepV, AV.isBot, List.contains_cons, List.contains_nil, Nat.reduceBEq, Bool.or_false, Bool.false_or, Bool.or_true, Bool.true_or, beq_self_eq_true, Bool.false_eq_true, ↓reduceIte, if_false, if_true]
        · have : i = it.items.length := by simp at hc; omega
          subst this
          rw [List.drop_length, deepsR_nil] at hw
          have w2 : IntKind.i64.wrap ((n : Int) + 1) = ((deepsR 0 it.items + 1 : Nat) : Int) := by rw [← hw]; exact wi64_nat n (by omega)
          simp only [go_sem, ↓reduceIte, Nat.reduceLT, Nat.reduceLeDiff, Nat.reduceAdd, Nat.reduceSub, Nat.reduceMul, Nat.reduceEqDiff, Nat.reduceBEq, Nat.reduceMod, Nat.reduceDiv, Int.reduceToNat, reduceCtorEq, Int.reduceLT, Int.reduceLE, Int.reduceGT, Int.reduceGE, Int.reduceAdd, Int.reduceSub, Int.reduceMul, Int.reduceNeg, Int.reduceEq, Int.reduceNe, Int.reduceBNe, Int.reduceBEq, Int.reduceDiv, w2]
          refine finOne ?_ (fun _ e => by cases e)
          show resOf _ _ [.tmp 2] = _
          simp only [go_sem, ↓reduceIte, Nat.reduceLT, Nat.reduceLeDiff, Nat.reduceAdd, Nat.reduceSub, Nat.reduceMul, Nat.reduceEqDiff, Nat.reduceBEq, Nat.reduceMod, Nat.reduceDiv, Int.reduceToNat, reduceCtorEq, Int.reduceLT, Int.reduceLE, Int.reduceGT, Int.reduceGE, Int.reduceAdd, Int.reduceSub, Int.reduceMul, Int.reduceNeg, Int.reduceEq, Int.reduceNe, Int.reduceBNe, Int.reduceBEq, Int.reduceDiv]
termination_by SizeOf.sizeOf it
decreasing_by exact item_lt hx
theorem c_ref4_raw (it : ItemD) (h : it.ok) : Contract Try.prog 134 [it.av] (.str (rawR it)) := by
  have ih : ∀ x, x ∈ it.items → Contract Try.prog 134 [x.av] (.str (rawR x)) := fun x hx => c_ref4_raw x (h.all x hx)
  have ht := h.text
  have hn := h.num
  cases hl : it.list with
  | false =>
    rw [rawR_text hl, rawOf_text hl]
    have ha := alone_eq it.text
    refine contract_of (C := cf 52 [1, 2, 3, 4, 7, 17, 36] (fun _ => [])) (cf_ok _ _ _) (fn := Try.f134) Try.func134 (by kernel_rfl) rfl (by kernel_rfl) (by simp [cf]) (plain1 it.plain) (by decide) (noCell (by kernel_rfl)) ?_
    have hhead := headB_len it.text.length 128
    have hahead := ahead_le (n := it.text.length) (by omega)
    rcases Decidable.em (it.text.length = 1) with e | e
    · obtain ⟨b, eb⟩ : ∃ b, it.text = [b] := by
        match hq : it.text, e with
        | [b], _ => exact ⟨b, rfl⟩
      have hb : decide ((b.toNat : Int) < 128) = aloneB [b] := by unfold aloneB; exact decide_congr (by omega)
      rw [eb] at ht hhead ⊢
      simp only [go_sem, ↓reduceIte, Nat.reduceLT, Nat.reduceLeDiff, Nat.reduceAdd, Nat.reduceSub, Nat.reduceMul, Nat.reduceEqDiff, Nat.reduceBEq, Nat.reduceMod, Nat.reduceDiv, Int.reduceToNat, reduceCtorEq, Int.reduceLT, Int.reduceLE, Int.reduceGT, Int.reduceGE, Int.reduceAdd, Int.reduceSub, Int.reduceMul, Int.reduceNeg, Int.reduceEq, Int.reduceNe, Int.reduceBNe, Int.reduceBEq, Int.reduceDiv, ItemD.av_eq, ItemD.cells, hl, eb, hb, Int.cast_ofNat_Int]
      refine ex_br (fun h1 => ?_) (fun h1 => ?_)
      · rw [h1]
        simp only [go_sem, ↓reduceIte, Nat.reduceLT, Nat.reduceLeDiff, Nat.reduceAdd, Nat.reduceSub, Nat.reduceMul, Nat.reduceEqDiff, Nat.reduceBEq, Nat.reduceMod, Nat.reduceDiv, Int.reduceToNat, reduceCtorEq, Int.reduceLT, Int.reduceLE, Int.reduceGT, Int.reduceGE, Int.reduceAdd, Int.reduceSub, Int.reduceMul, Int.reduceNeg, Int.reduceEq, Int.reduceNe, Int.reduceBNe, Int.reduceBEq, Int.reduceDiv]
        refine finOne ?_ (fun _ e => by cases e)
        show resOf _ _ [.tmp 2] = _
        simp only [go_sem, ↓reduceIte, Nat.reduceLT, Nat.reduceLeDiff, Nat.reduceAdd, Nat.reduceSub, Nat.reduceMul, Nat.reduceEqDiff, Nat.reduceBEq, Nat.reduceMod, Nat.reduceDiv, Int.reduceToNat, reduceCtorEq, Int.reduceLT, Int.reduceLE, Int.reduceGT, Int.reduceGE, Int.reduceAdd, Int.reduceSub, Int.reduceMul, Int.reduceNeg, Int.reduceEq, Int.reduceNe, Int.reduceBNe, Int.reduceBEq, Int.reduceDiv]
      · rw [h1]
        simp only [go_sem, ↓reduceIte, Nat.reduceLT, Nat.reduceLeDiff, Nat.reduceAdd, Nat.reduceSub, Nat.reduceMul, Nat.reduceEqDiff, Nat.reduceBEq, Nat.reduceMod, Nat.reduceDiv, Int.reduceToNat, reduceCtorEq, Int.reduceLT, Int.reduceLE, Int.reduceGT, Int.reduceGE, Int.reduceAdd, Int.reduceSub, Int.reduceMul, Int.reduceNeg, Int.reduceEq, Int.reduceNe, Int.reduceBNe, Int.reduceBEq, Int.reduceDiv]
        refine ex_draw [] [] (.quiet 0 (.quiet 1 (.quiet 2 (.quiet 4 (.quiet 5 (.one 3 (.quiet 6 (.quiet 7 (.fin))))))))) (by kernel_rfl) ?_
        simp only [go_sem, ↓reduceIte, Nat.reduceLT, Nat.reduceLeDiff, Nat.reduceAdd, Nat.reduceSub, Nat.reduceMul, Nat.reduceEqDiff, Nat.reduceBEq, Nat.reduceMod, Nat.reduceDiv, Int.reduceToNat, reduceCtorEq, Int.reduceLT, Int.reduceLE, Int.reduceGT, Int.reduceGE, Int.reduceAdd, Int.reduceSub, Int.reduceMul, Int.reduceNeg, Int.reduceEq, Int.reduceNe, Int.reduceBNe, Int.reduceBEq, Int.reduceDiv, Int.cast_ofNat_Int]
        refine ex_call (by exact c_ref4_head 1 128 (by omega) (by omega)) ?_
        simp only [go_sem, ↓reduceIte, Nat.reduceLT, Nat.reduceLeDiff, Nat.reduceAdd, Nat.reduceSub, Nat.reduceMul, Nat.reduceEqDiff, Nat.reduceBEq, Nat.reduceMod, Nat.reduceDiv, Int.reduceToNat, reduceCtorEq, Int.reduceLT, Int.reduceLE, Int.reduceGT, Int.reduceGE, Int.reduceAdd, Int.reduceSub, Int.reduceMul, Int.reduceNeg, Int.reduceEq, Int.reduceNe, Int.reduceBNe, Int.reduceBEq, Int.reduceDiv]
        have h9 : (headB 1 128).length = 1 := by rw [headB_len]; rfl
        refine ⟨by omega, ?_⟩
        refine finOne ?_ (fun _ e => by cases e)
        show resOf _ _ [.tmp 2] = _
        simp only [go_sem, ↓reduceIte, Nat.reduceLT, Nat.reduceLeDiff, Nat.reduceAdd, Nat.reduceSub, Nat.reduceMul, Nat.reduceEqDiff, Nat.reduceBEq, Nat.reduceMod, Nat.reduceDiv, Int.reduceToNat, reduceCtorEq, Int.reduceLT, Int.reduceLE, Int.reduceGT, Int.reduceGE, Int.reduceAdd, Int.reduceSub, Int.reduceMul, Int.reduceNeg, Int.reduceEq, Int.reduceNe, Int.reduceBNe, Int.reduceBEq, Int.reduceDiv]
    · have e1 : ((it.text.length : Int) == 1) = false := by simpa using (by omega : ¬ (it.text.length : Int) = 1)
      have e2 : aloneB it.text = false := by rw [ha, decide_eq_false e]; rfl
      rw [e2]
      simp only [go_sem, ↓reduceIte, Nat.reduceLT, Nat.reduceLeDiff, Nat.reduceAdd, Nat.reduceSub, Nat.reduceMul, Nat.reduceEqDiff, Nat.reduceBEq, Nat.reduceMod, Nat.reduceDiv, Int.reduceToNat, reduceCtorEq, Int.reduceLT, Int.reduceLE, Int.reduceGT, Int.reduceGE, Int.reduceAdd, Int.reduceSub, Int.reduceMul, Int.reduceNeg, Int.reduceEq, Int.reduceNe, Int.reduceBNe, Int.reduceBEq, Int.reduceDiv, ItemD.av_eq, ItemD.cells, hl, e1]
      refine ex_draw [] [] (.quiet 0 (.quiet 1 (.quiet 2 (.quiet 4 (.quiet 5 (.one 3 (.quiet 6 (.quiet 7 (.fin))))))))) (by kernel_rfl) ?_
      simp only [go_sem, ↓reduceIte, Nat.reduceLT, Nat.reduceLeDiff, Nat.reduceAdd, Nat.reduceSub, Nat.reduceMul, Nat.reduceEqDiff, Nat.reduceBEq, Nat.reduceMod, Nat.reduceDiv, Int.reduceToNat, reduceCtorEq, Int.reduceLT, Int.reduceLE, Int.reduceGT, Int.reduceGE, Int.reduceAdd, Int.reduceSub, Int.reduceMul, Int.reduceNeg, Int.reduceEq, Int.reduceNe, Int.reduceBNe, Int.reduceBEq, Int.reduceDiv]
      refine ex_call (by exact c_ref4_head it.text.length 128 (by omega) (by omega)) ?_
      simp only [go_sem, ↓reduceIte, Nat.reduceLT, Nat.reduceLeDiff, Nat.reduceAdd, Nat.reduceSub, Nat.reduceMul, Nat.reduceEqDiff, Nat.reduceBEq, Nat.reduceMod, Nat.reduceDiv, Int.reduceToNat, reduceCtorEq, Int.reduceLT, Int.reduceLE, Int.reduceGT, Int.reduceGE, Int.reduceAdd, Int.reduceSub, Int.reduceMul, Int.reduceNeg, Int.reduceEq, Int.reduceNe, Int.reduceBNe, Int.reduceBEq, Int.reduceDiv]
      refine ⟨by omega, ?_⟩
      refine finOne ?_ (fun _ e => by cases e)
      show resOf _ _ [.tmp 2] = _
      simp only [go_sem, ↓reduceIte, Nat.reduceLT, Nat.reduceLeDiff, Nat.reduceAdd, Nat.reduceSub, Nat.reduceMul, Nat.reduceEqDiff, Nat.reduceBEq, Nat.reduceMod, Nat.reduceDiv, Int.reduceToNat, reduceCtorEq, Int.reduceLT, Int.reduceLE, Int.reduceGT, Int.reduceGE, Int.reduceAdd, Int.reduceSub, Int.reduceMul, Int.reduceNeg, Int.reduceEq, Int.reduceNe, Int.reduceBNe, Int.reduceBEq, Int.reduceDiv]
  | true =>
    rw [rawR_list hl]
    have hwts : wts it.items ≤ 16777216 := by have := wt_eq it; unfold ItemD.ok at h; omega
    have hrl := (rawsR_le (xs := it.items) (fun x hx => rawR_le x (h.all x hx)) []).2
    rw [List.length_nil] at hrl
    have hhead := headB_len (rawsR [] it.items).length 192
    have hahead := ahead_le (n := (rawsR [] it.items).length) (by omega)
    refine contract_of (C := cf 52 [1, 2, 3, 4, 7, 17, 36] (fun _ => [])) (cf_ok _ _ _) (fn := Try.f134) Try.func134 (by kernel_rfl) rfl (by kernel_rfl) (by simp [cf]) (plain1 it.plain) (by decide) (noCell (by kernel_rfl)) ?_
    simp only [go_sem, ↓reduceIte, Nat.reduceLT, Nat.reduceLeDiff, Nat.reduceAdd, Nat.reduceSub, Nat.reduceMul, Nat.reduceEqDiff, Nat.reduceBEq, Nat.reduceMod, Nat.reduceDiv, Int.reduceToNat, reduceCtorEq, Int.reduceLT, Int.reduceLE, Int.reduceGT, Int.reduceGE, Int.reduceAdd, Int.reduceSub, Int.reduceMul, Int.reduceNeg, Int.reduceEq, Int.reduceNe, Int.reduceBNe, Int.reduceBEq, Int.reduceDiv, ItemD.av_eq, ItemD.cells, hl]
    refine ex_iter [1, 3, 4] (fun q : Nat × List UInt8 => ⟨[(1, .var 1 0), (3, .str q.2), (4, .int .i64 (q.1 : Nat))], [(1, [.bool true, .str it.text, .sl false 3 (it.items.map ItemD.av)])]⟩)
      (fun q => q.1 ≤ it.items.length ∧ q.2.length ≤ 4294967296 ∧ rawsR q.2 (it.items.drop q.1) = rawsR [] it.items) (fun q => it.items.length - q.1) (0, []) ?_ ?_ ?_
    · simp only [ASt.keep, consIf, keepL, keepV, AV.isBot, List.contains_cons, List.contains_nil, Nat.reduceBEq, Bool.or_false, Bool.false_or, Bool.or_true, Bool.true_or, beq_self_eq_true, Bool.false_eq_true, ↓reduceIte, if_false, if_true]
      rfl
    · exact ⟨Nat.zero_le _, by simp, rfl⟩
    · rintro r ⟨i, s⟩ hinv next
      obtain ⟨hi, hn2, hw⟩ : i ≤ it.items.length ∧ s.length ≤ 4294967296 ∧ rawsR s (it.items.drop i) = rawsR [] it.items := hinv
      simp only [go_sem, ↓reduceIte, Nat.reduceLT, Nat.reduceLeDiff, Nat.reduceAdd, Nat.reduceSub, Nat.reduceMul, Nat.reduceEqDiff, Nat.reduceBEq, Nat.reduceMod, Nat.reduceDiv, Int.reduceToNat, reduceCtorEq, Int.reduceLT, Int.reduceLE, Int.reduceGT, Int.reduceGE, Int.reduceAdd, Int.reduceSub, Int.reduceMul, Int.reduceNeg, Int.reduceEq, Int.reduceNe, Int.reduceBNe, Int.reduceBEq, Int.reduceDiv, List.length_map]
      refine ex_joinB 36 (decide (i < it.items.length) && decide (s.length ≤ 131072)) ?_ ?_
      · repeat' (first | (refine ex_split (fun h => ?_) (fun h => ?_)) | (with_reducible refine And.intro (by omega) ?_) |
          (simp only [go_sem, ↓reduceIte, Nat.reduceLT, Nat.reduceLeDiff, Nat.reduceAdd, Nat.reduceSub, Nat.reduceMul, Nat.reduceEqDiff, Nat.reduceBEq, Nat.reduceMod, Nat.reduceDiv, Int.reduceToNat, reduceCtorEq, Int.reduceLT, Int.reduceLE, Int.reduceGT, Int.reduceGE, Int.reduceAdd, Int.reduceSub, Int.reduceMul, Int.reduceNeg, Int.reduceEq, Int.reduceNe, Int.reduceBNe, Int.reduceBEq, Int.reduceDiv, List.length_map]))
        all_goals (try simp only [ASt.mk.injEq, List.cons.injEq, Prod.mk.injEq, AV.bool.injEq, true_and, and_true, eq_self])
        all_goals first | (simp_all; done) | (simp_all; omega) | (rw [Bool.eq_iff_iff]; simp only [List.length_map, Bool.or_eq_true, Bool.and_eq_true, Bool.not_eq_true', Bool.not_eq_false', decide_eq_true_eq, decide_eq_false_iff_not, bne_iff_ne, beq_iff_eq, ne_eq, true_iff, iff_true, false_iff, iff_false, Bool.false_eq_true, not_false_eq_true, not_true_eq_false] at *; omega)
      simp only [go_sem, ↓reduceIte, Nat.reduceLT, Nat.reduceLeDiff, Nat.reduceAdd, Nat.reduceSub, Nat.reduceMul, Nat.reduceEqDiff, Nat.reduceBEq, Nat.reduceMod, Nat.reduceDiv, Int.reduceToNat, reduceCtorEq, Int.reduceLT, Int.reduceLE, Int.reduceGT, Int.reduceGE, Int.reduceAdd, Int.reduceSub, Int.reduceMul, Int.reduceNeg, Int.reduceEq, Int.reduceNe, Int.reduceBNe, Int.reduceBEq, Int.reduceDiv]
      refine ex_br (fun hc => ?_) (fun hc => ?_)
      · have hlt : i < it.items.length ∧ s.length ≤ 131072 := by simpa using hc
        obtain ⟨x, ex⟩ : ∃ x, it.items[i]? = some x := ⟨_, List.getElem?_eq_getElem hlt.1⟩
        have hm := List.mem_of_getElem? ex
        have hx := ih x hm
        have hb := rawR_le x (h.all x hm)
        have hb2 := h.all x hm
        unfold ItemD.ok at hb2
        rw [ItemD.av_eq] at hx
        simp only [go_sem, ↓reduceIte, Nat.reduceLT, Nat.reduceLeDiff, Nat.reduceAdd, Nat.reduceSub, Nat.reduceMul, Nat.reduceEqDiff, Nat.reduceBEq, Nat.reduceMod, Nat.reduceDiv, Int.reduceToNat, reduceCtorEq, Int.reduceLT, Int.reduceLE, Int.reduceGT, Int.reduceGE, Int.reduceAdd, Int.reduceSub, Int.reduceMul, Int.reduceNeg, Int.reduceEq, Int.reduceNe, Int.reduceBNe, Int.reduceBEq, Int.reduceDiv, List.length_map, List.getElem?_map, ex, Int.toNat_natCast, ItemD.av_eq, ItemD.cells]
        repeat with_reducible refine And.intro (by first | omega | (simp only [List.length_cons, List.length_append, List.length_nil, List.length_map, List.length_take, List.length_drop, List.length_set]; omega)) ?_
        try simp only [go_sem, ↓reduceIte, Nat.reduceLT, Nat.reduceLeDiff, Nat.reduceAdd, Nat.reduceSub, Nat.reduceMul, Nat.reduceEqDiff, Nat.reduceBEq, Nat.reduceMod, Nat.reduceDiv, Int.reduceToNat, reduceCtorEq, Int.reduceLT, Int.reduceLE, Int.reduceGT, Int.reduceGE, Int.reduceAdd, Int.reduceSub, Int.reduceMul, Int.reduceNeg, Int.reduceEq, Int.reduceNe, Int.reduceBNe, Int.reduceBEq, Int.reduceDiv, ItemD.cells]
        refine ex_call (by exact hx) ?_
        simp only [go_sem, ↓reduceIte, Nat.reduceLT, Nat.reduceLeDiff, Nat.reduceAdd, Nat.reduceSub, Nat.reduceMul, Nat.reduceEqDiff, Nat.reduceBEq, Nat.reduceMod, Nat.reduceDiv, Int.reduceToNat, reduceCtorEq, Int.reduceLT, Int.reduceLE, Int.reduceGT, Int.reduceGE, Int.reduceAdd, Int.reduceSub, Int.reduceMul, Int.reduceNeg, Int.reduceEq, Int.reduceNe, Int.reduceBNe, Int.reduceBEq, Int.reduceDiv]
        refine ⟨by omega, ?_⟩
        refine next (i + 1, s ++ rawR x) _ ⟨by simp only; omega, by simp only [List.length_append]; omega, by simp only; rw [← rawsR_drop ex hlt.2]; exact hw⟩ (by simp only; omega) ?_
        simp only
        rw [← wi64_nat i (by omega)]
        simp only [ASt.keep, consIf, keepL, keepV, AV.isBot, List.contains_cons, List.contains_nil, Nat.reduceBEq, Bool.or_false, Bool.false_or, Bool.or_true, Bool.true_or, beq_self_eq_true, Bool.false_eq_true, ↓reduceIte, if_false, if_true]
      · have e : rawsR [] it.items = s := by
          rw [← hw]
          by_cases h1 : s.length ≤ 131072
          · have : i = it.items.length := by simp [h1] at hc; omega
            rw [this, List.drop_length]; exact rawsR_nil s
          · exact rawsR_end h1
        rw [e] at hrl hhead hahead ⊢
        simp only [go_sem, ↓reduceIte, Nat.reduceLT, Nat.reduceLeDiff, Nat.reduceAdd, Nat.reduceSub, Nat.reduceMul, Nat.reduceEqDiff, Nat.reduceBEq, Nat.reduceMod, Nat.reduceDiv, Int.reduceToNat, reduceCtorEq, Int.reduceLT, Int.reduceLE, Int.reduceGT, Int.reduceGE, Int.reduceAdd, Int.reduceSub, Int.reduceMul, Int.reduceNeg, Int.reduceEq, Int.reduceNe, Int.reduceBNe, Int.reduceBEq, Int.reduceDiv]
        refine ex_call (by exact c_ref4_head s.length 192 (by omega) (by omega)) ?_
        simp only [go_sem, ↓reduceIte, Nat.reduceLT, Nat.reduceLeDiff, Nat.reduceAdd, Nat.reduceSub, Nat.reduceMul, Nat.reduceEqDiff, Nat.reduceBEq, Nat.reduceMod, Nat.reduceDiv, Int.reduceToNat, reduceCtorEq, Int.reduceLT, Int.reduceLE, Int.reduceGT, Int.reduceGE, Int.reduceAdd, Int.reduceSub, Int.reduceMul, Int.reduceNeg, Int.reduceEq, Int.reduceNe, Int.reduceBNe, Int.reduceBEq, Int.reduceDiv]
        refine ⟨by omega, ?_⟩
        refine finOne ?_ (fun _ e => by cases e)
        show resOf _ _ [.tmp 2] = _
        simp only [go_sem, ↓reduceIte, Nat.reduceLT, Nat.reduceLeDiff, Nat.reduceAdd, Nat.reduceSub, Nat.reduceMul, Nat.reduceEqDiff, Nat.reduceBEq, Nat.reduceMod, Nat.reduceDiv, Int.reduceToNat, reduceCtorEq, Int.reduceLT, Int.reduceLE, Int.reduceGT, Int.reduceGE, Int.reduceAdd, Int.reduceSub, Int.reduceMul, Int.reduceNeg, Int.reduceEq, Int.reduceNe, Int.reduceBNe, Int.reduceBEq, Int.reduceDiv]
termination_by SizeOf.sizeOf it
decreasing_by exact item_lt hx
/-- The page's answer. -/
theorem c_ref4_Item (it : ItemD) (h : it.ok) : Contract Try.prog 116 [it.av] (.tup [.str (if okI 0 it = true then rawOf it else []), .bool (okI 0 it)]) := by
  have hd := c_ref4_deep it h
  have hr := c_ref4_raw it h
  rw [ItemD.av_eq] at hd hr
  have hok := deep_ok it 0
  have hrr := rawR_rawOf it h
  have hle := rawR_le it h
  have hle2 := h
  unfold ItemD.ok at hle2
  refine contract_of (C := cf 14 [1, 2, 3, 4, 7, 12] (fun _ => [])) (cf_ok _ _ _) (fn := Try.f116) Try.func116 (by kernel_rfl) rfl (by kernel_rfl) (by simp [cf]) (plain1 it.plain) (by decide) (noCell (by kernel_rfl)) ?_
  rcases Decidable.em (deepR it > 16) with hg | hg
  · have e : okI 0 it = false := by
      cases hq : okI 0 it with
      | false => rfl
      | true => have := (hok.1 hq).1; omega
    have e1 : decide ((deepR it : Int) > 16) = true := decide_eq_true (by omega)
    rw [e]
    simp only [go_sem, ↓reduceIte, Nat.reduceLT, Nat.reduceLeDiff, Nat.reduceAdd, Nat.reduceSub, Nat.reduceMul, Nat.reduceEqDiff, Nat.reduceBEq, Nat.reduceMod, Nat.reduceDiv, Int.reduceToNat, reduceCtorEq, Int.reduceLT, Int.reduceLE, Int.reduceGT, Int.reduceGE, Int.reduceAdd, Int.reduceSub, Int.reduceMul, Int.reduceNeg, Int.reduceEq, Int.reduceNe, Int.reduceBNe, Int.reduceBEq, Int.reduceDiv, ItemD.av_eq, ItemD.cells]
    refine ex_call (by exact hd) ?_
    simp only [go_sem, ↓reduceIte, Nat.reduceLT, Nat.reduceLeDiff, Nat.reduceAdd, Nat.reduceSub, Nat.reduceMul, Nat.reduceEqDiff, Nat.reduceBEq, Nat.reduceMod, Nat.reduceDiv, Int.reduceToNat, reduceCtorEq, Int.reduceLT, Int.reduceLE, Int.reduceGT, Int.reduceGE, Int.reduceAdd, Int.reduceSub, Int.reduceMul, Int.reduceNeg, Int.reduceEq, Int.reduceNe, Int.reduceBNe, Int.reduceBEq, Int.reduceDiv, e1]
    refine finTup ?_
    show resOf _ _ [.tmp 2, .tmp 3] = _
    simp only [go_sem, ↓reduceIte, Nat.reduceLT, Nat.reduceLeDiff, Nat.reduceAdd, Nat.reduceSub, Nat.reduceMul, Nat.reduceEqDiff, Nat.reduceBEq, Nat.reduceMod, Nat.reduceDiv, Int.reduceToNat, reduceCtorEq, Int.reduceLT, Int.reduceLE, Int.reduceGT, Int.reduceGE, Int.reduceAdd, Int.reduceSub, Int.reduceMul, Int.reduceNeg, Int.reduceEq, Int.reduceNe, Int.reduceBNe, Int.reduceBEq, Int.reduceDiv]
  · have e1 : decide ((deepR it : Int) > 16) = false := decide_eq_false (by omega)
    rcases Decidable.em ((rawR it).length > 65536) with hx | hx
    · have e : okI 0 it = false := by
        cases hq : okI 0 it with
        | false => rfl
        | true =>
          have := (hok.1 hq).2
          rcases hrr with h1 | h1
          · rw [h1] at hx; omega
          · omega
      have e2 : decide (((rawR it).length : Int) > 65536) = true := decide_eq_true (by omega)
      rw [e]
      simp only [go_sem, ↓reduceIte, Nat.reduceLT, Nat.reduceLeDiff, Nat.reduceAdd, Nat.reduceSub, Nat.reduceMul, Nat.reduceEqDiff, Nat.reduceBEq, Nat.reduceMod, Nat.reduceDiv, Int.reduceToNat, reduceCtorEq, Int.reduceLT, Int.reduceLE, Int.reduceGT, Int.reduceGE, Int.reduceAdd, Int.reduceSub, Int.reduceMul, Int.reduceNeg, Int.reduceEq, Int.reduceNe, Int.reduceBNe, Int.reduceBEq, Int.reduceDiv, ItemD.av_eq, ItemD.cells]
      refine ex_call (by exact hd) ?_
      simp only [go_sem, ↓reduceIte, Nat.reduceLT, Nat.reduceLeDiff, Nat.reduceAdd, Nat.reduceSub, Nat.reduceMul, Nat.reduceEqDiff, Nat.reduceBEq, Nat.reduceMod, Nat.reduceDiv, Int.reduceToNat, reduceCtorEq, Int.reduceLT, Int.reduceLE, Int.reduceGT, Int.reduceGE, Int.reduceAdd, Int.reduceSub, Int.reduceMul, Int.reduceNeg, Int.reduceEq, Int.reduceNe, Int.reduceBNe, Int.reduceBEq, Int.reduceDiv, e1]
      refine ex_call (by exact hr) ?_
      simp only [go_sem, ↓reduceIte, Nat.reduceLT, Nat.reduceLeDiff, Nat.reduceAdd, Nat.reduceSub, Nat.reduceMul, Nat.reduceEqDiff, Nat.reduceBEq, Nat.reduceMod, Nat.reduceDiv, Int.reduceToNat, reduceCtorEq, Int.reduceLT, Int.reduceLE, Int.reduceGT, Int.reduceGE, Int.reduceAdd, Int.reduceSub, Int.reduceMul, Int.reduceNeg, Int.reduceEq, Int.reduceNe, Int.reduceBNe, Int.reduceBEq, Int.reduceDiv, e2]
      refine finTup ?_
      show resOf _ _ [.tmp 2, .tmp 3] = _
      simp only [go_sem, ↓reduceIte, Nat.reduceLT, Nat.reduceLeDiff, Nat.reduceAdd, Nat.reduceSub, Nat.reduceMul, Nat.reduceEqDiff, Nat.reduceBEq, Nat.reduceMod, Nat.reduceDiv, Int.reduceToNat, reduceCtorEq, Int.reduceLT, Int.reduceLE, Int.reduceGT, Int.reduceGE, Int.reduceAdd, Int.reduceSub, Int.reduceMul, Int.reduceNeg, Int.reduceEq, Int.reduceNe, Int.reduceBNe, Int.reduceBEq, Int.reduceDiv]
    · have h1 : rawR it = rawOf it := by
        rcases hrr with h1 | h1
        · exact h1
        · omega
      have e : okI 0 it = true := hok.2 ⟨by omega, by rw [← h1]; omega⟩
      have e2 : decide (((rawR it).length : Int) > 65536) = false := decide_eq_false (by omega)
      rw [e, if_pos rfl, ← h1]
      simp only [go_sem, ↓reduceIte, Nat.reduceLT, Nat.reduceLeDiff, Nat.reduceAdd, Nat.reduceSub, Nat.reduceMul, Nat.reduceEqDiff, Nat.reduceBEq, Nat.reduceMod, Nat.reduceDiv, Int.reduceToNat, reduceCtorEq, Int.reduceLT, Int.reduceLE, Int.reduceGT, Int.reduceGE, Int.reduceAdd, Int.reduceSub, Int.reduceMul, Int.reduceNeg, Int.reduceEq, Int.reduceNe, Int.reduceBNe, Int.reduceBEq, Int.reduceDiv, ItemD.av_eq, ItemD.cells]
      refine ex_call (by exact hd) ?_
      simp only [go_sem, ↓reduceIte, Nat.reduceLT, Nat.reduceLeDiff, Nat.reduceAdd, Nat.reduceSub, Nat.reduceMul, Nat.reduceEqDiff, Nat.reduceBEq, Nat.reduceMod, Nat.reduceDiv, Int.reduceToNat, reduceCtorEq, Int.reduceLT, Int.reduceLE, Int.reduceGT, Int.reduceGE, Int.reduceAdd, Int.reduceSub, Int.reduceMul, Int.reduceNeg, Int.reduceEq, Int.reduceNe, Int.reduceBNe, Int.reduceBEq, Int.reduceDiv, e1]
      refine ex_call (by exact hr) ?_
      simp only [go_sem, ↓reduceIte, Nat.reduceLT, Nat.reduceLeDiff, Nat.reduceAdd, Nat.reduceSub, Nat.reduceMul, Nat.reduceEqDiff, Nat.reduceBEq, Nat.reduceMod, Nat.reduceDiv, Int.reduceToNat, reduceCtorEq, Int.reduceLT, Int.reduceLE, Int.reduceGT, Int.reduceGE, Int.reduceAdd, Int.reduceSub, Int.reduceMul, Int.reduceNeg, Int.reduceEq, Int.reduceNe, Int.reduceBNe, Int.reduceBEq, Int.reduceDiv, e2]
      refine finTup ?_
      show resOf _ _ [.tmp 2, .tmp 3] = _
      simp only [go_sem, ↓reduceIte, Nat.reduceLT, Nat.reduceLeDiff, Nat.reduceAdd, Nat.reduceSub, Nat.reduceMul, Nat.reduceEqDiff, Nat.reduceBEq, Nat.reduceMod, Nat.reduceDiv, Int.reduceToNat, reduceCtorEq, Int.reduceLT, Int.reduceLE, Int.reduceGT, Int.reduceGE, Int.reduceAdd, Int.reduceSub, Int.reduceMul, Int.reduceNeg, Int.reduceEq, Int.reduceNe, Int.reduceBNe, Int.reduceBEq, Int.reduceDiv]
end Go.Proofs.Ytnamkghgehfphaa.VA
end
section
/- Items' bytes: what is laid. -/
namespace Go.Proofs.Ytnamkghgehfphaa.VA
set_option maxRecDepth 10000
set_option linter.unusedSimpArgs false
set_option linter.unusedVariables false
set_option maxHeartbeats 1000000

def bytesAv (bs : List UInt8) : AV := .own false 1 (bs.map u8)
theorem bytesAv_plain (bs : List UInt8) : Plain (bytesAv bs) := .own _ _ _ (fun c hc => by obtain ⟨x, _, rfl⟩ := List.mem_map.1 hc; exact .int _ _)
def ownL (f : FuncId) : List Nat := if Nat.beq f 131 = true then [0] else if Nat.beq f 140 = true then [0] else []
theorem ownL_laid : ownL 131 = [0] := rfl
theorem ownL_front : ownL 140 = [0] := rfl
theorem ownL_Each : ownL 139 = [] := rfl
theorem ownL_alone : ownL 141 = [] := rfl
theorem c_laid (it : ItemD) (h : it.ok) (bs : List UInt8) (hb : bs.length ≤ 4294967296) : Contract Try.prog 131 [bytesAv bs, it.av] (bytesAv (bs ++ rawOf it)) := by
  have ih : ∀ x, x ∈ it.items → ∀ bs : List UInt8, bs.length ≤ 4294967296 → Contract Try.prog 131 [bytesAv bs, x.av] (bytesAv (bs ++ rawOf x)) := fun x hx bs hb => c_laid x (h.all x hx) bs hb
  have ht := h.text
  have hn := h.num
  have hle := rawOf_le it h
  have hok := h
  unfold ItemD.ok at hok
  cases hl : it.list with
  | false =>
    refine contract_of (C := cf 36 [0, 3, 4, 5, 6, 7, 11, 12, 22] ( ownL)) (cf_ok _ _ _) (fn := Try.f131) Try.func131 (by kernel_rfl) rfl (by kernel_rfl) (by simp [cf]) (plain2 (bytesAv_plain bs) it.plain) (by decide) (noCell (by kernel_rfl)) ?_
    rw [rawOf_text hl]
    simp only [go_sem, ↓reduceIte, Nat.reduceLT, Nat.reduceLeDiff, Nat.reduceAdd, Nat.reduceSub, Nat.reduceMul, Nat.reduceEqDiff, Nat.reduceBEq, Nat.reduceMod, Nat.reduceDiv, Int.reduceToNat, reduceCtorEq, Int.reduceLT, Int.reduceLE, Int.reduceGT, Int.reduceGE, Int.reduceAdd, Int.reduceSub, Int.reduceMul, Int.reduceNeg, Int.reduceEq, Int.reduceNe, Int.reduceBNe, Int.reduceBEq, Int.reduceDiv, bytesAv, ItemD.av_eq, ItemD.cells, hl, ownL_laid, ownL_front, ownL_Each, ownL_alone]
    refine ex_call (by exact c_item_alone it.text (by omega)) ?_
    cases ha : aloneB it.text with
    | true =>
      rw [if_pos rfl]
      simp only [go_sem, ↓reduceIte, Nat.reduceLT, Nat.reduceLeDiff, Nat.reduceAdd, Nat.reduceSub, Nat.reduceMul, Nat.reduceEqDiff, Nat.reduceBEq, Nat.reduceMod, Nat.reduceDiv, Int.reduceToNat, reduceCtorEq, Int.reduceLT, Int.reduceLE, Int.reduceGT, Int.reduceGE, Int.reduceAdd, Int.reduceSub, Int.reduceMul, Int.reduceNeg, Int.reduceEq, Int.reduceNe, Int.reduceBNe, Int.reduceBEq, Int.reduceDiv, List.length_map]
      repeat with_reducible refine And.intro (by first | omega | (simp only [List.length_cons, List.length_append, List.length_nil, List.length_map, List.length_take, List.length_drop, List.length_set]; omega)) ?_
      refine finOne ?_ (fun _ e => by cases e)
      show resOf _ _ [.tmp 4] = _
      simp only [go_sem, ↓reduceIte, Nat.reduceLT, Nat.reduceLeDiff, Nat.reduceAdd, Nat.reduceSub, Nat.reduceMul, Nat.reduceEqDiff, Nat.reduceBEq, Nat.reduceMod, Nat.reduceDiv, Int.reduceToNat, reduceCtorEq, Int.reduceLT, Int.reduceLE, Int.reduceGT, Int.reduceGE, Int.reduceAdd, Int.reduceSub, Int.reduceMul, Int.reduceNeg, Int.reduceEq, Int.reduceNe, Int.reduceBNe, Int.reduceBEq, Int.reduceDiv, List.map_append]
    | false =>
      rw [if_neg (by simp)]
      have hh := headB_len it.text.length 128
      have hah := ahead_le (n := it.text.length) (by omega)
      simp only [go_sem, ↓reduceIte, Nat.reduceLT, Nat.reduceLeDiff, Nat.reduceAdd, Nat.reduceSub, Nat.reduceMul, Nat.reduceEqDiff, Nat.reduceBEq, Nat.reduceMod, Nat.reduceDiv, Int.reduceToNat, reduceCtorEq, Int.reduceLT, Int.reduceLE, Int.reduceGT, Int.reduceGE, Int.reduceAdd, Int.reduceSub, Int.reduceMul, Int.reduceNeg, Int.reduceEq, Int.reduceNe, Int.reduceBNe, Int.reduceBEq, Int.reduceDiv, ownL_laid, ownL_front, ownL_Each, ownL_alone]
      refine ex_call (by exact c_item_front bs 128 it.text.length (by omega) (by omega) (by omega)) ?_
      simp only [go_sem, ↓reduceIte, Nat.reduceLT, Nat.reduceLeDiff, Nat.reduceAdd, Nat.reduceSub, Nat.reduceMul, Nat.reduceEqDiff, Nat.reduceBEq, Nat.reduceMod, Nat.reduceDiv, Int.reduceToNat, reduceCtorEq, Int.reduceLT, Int.reduceLE, Int.reduceGT, Int.reduceGE, Int.reduceAdd, Int.reduceSub, Int.reduceMul, Int.reduceNeg, Int.reduceEq, Int.reduceNe, Int.reduceBNe, Int.reduceBEq, Int.reduceDiv, List.length_map, List.length_append]
      repeat with_reducible refine And.intro (by first | omega | (simp only [List.length_cons, List.length_append, List.length_nil, List.length_map, List.length_take, List.length_drop, List.length_set]; omega)) ?_
      refine finOne ?_ (fun _ e => by cases e)
      show resOf _ _ [.tmp 4] = _
      simp only [go_sem, ↓reduceIte, Nat.reduceLT, Nat.reduceLeDiff, Nat.reduceAdd, Nat.reduceSub, Nat.reduceMul, Nat.reduceEqDiff, Nat.reduceBEq, Nat.reduceMod, Nat.reduceDiv, Int.reduceToNat, reduceCtorEq, Int.reduceLT, Int.reduceLE, Int.reduceGT, Int.reduceGE, Int.reduceAdd, Int.reduceSub, Int.reduceMul, Int.reduceNeg, Int.reduceEq, Int.reduceNe, Int.reduceBNe, Int.reduceBEq, Int.reduceDiv, List.map_append, List.append_assoc]
  | true =>
    have heach : eachOf it = it.items.map ItemD.av := by unfold eachOf; rw [hl]; rfl
    have hce := c_Each it
    rw [ItemD.av_eq] at hce
    rw [rawOf_list hl]
    rw [rawOf_list hl, List.length_append] at hle
    refine contract_of (C := cf 36 [0, 3, 4, 5, 6, 7, 11, 12, 22] ( ownL)) (cf_ok _ _ _) (fn := Try.f131) Try.func131 (by kernel_rfl) rfl (by kernel_rfl) (by simp [cf]) (plain2 (bytesAv_plain bs) it.plain) (by decide) (noCell (by kernel_rfl)) ?_
    simp only [go_sem, ↓reduceIte, Nat.reduceLT, Nat.reduceLeDiff, Nat.reduceAdd, Nat.reduceSub, Nat.reduceMul, Nat.reduceEqDiff, Nat.reduceBEq, Nat.reduceMod, Nat.reduceDiv, Int.reduceToNat, reduceCtorEq, Int.reduceLT, Int.reduceLE, Int.reduceGT, Int.reduceGE, Int.reduceAdd, Int.reduceSub, Int.reduceMul, Int.reduceNeg, Int.reduceEq, Int.reduceNe, Int.reduceBNe, Int.reduceBEq, Int.reduceDiv, bytesAv, ItemD.av_eq, ItemD.cells, hl, ownL_laid, ownL_front, ownL_Each, ownL_alone]
    refine ex_call (by simpa only [ItemD.cells, hl] using hce) ?_
    simp only [go_sem, ↓reduceIte, Nat.reduceLT, Nat.reduceLeDiff, Nat.reduceAdd, Nat.reduceSub, Nat.reduceMul, Nat.reduceEqDiff, Nat.reduceBEq, Nat.reduceMod, Nat.reduceDiv, Int.reduceToNat, reduceCtorEq, Int.reduceLT, Int.reduceLE, Int.reduceGT, Int.reduceGE, Int.reduceAdd, Int.reduceSub, Int.reduceMul, Int.reduceNeg, Int.reduceEq, Int.reduceNe, Int.reduceBNe, Int.reduceBEq, Int.reduceDiv, ItemD.cells, hl]
    refine ex_range [5] 12 (cloP 147 it.cells) (eachOf it) (fun i => [(5, [bytesAv (raws (it.items.take i))])]) ⟨rfl, rfl, rfl, by decide, by decide, rfl, ?_, iter_each it h, by rw [List.take_zero, raws_nil]; rfl⟩ (fun i x hx => ?_) ?_
    · show AV.ext _ = AV.ext (cloP _ it.cells)
      rw [ItemD.cells, hl]
    · obtain ⟨y, ey, rfl⟩ : ∃ y, it.items[i]? = some y ∧ y.av = x := by
        rw [heach, List.getElem?_map, Option.map_eq_some_iff] at hx
        exact hx
      have hm := List.mem_of_getElem? ey
      have hsnoc : raws (it.items.take i) ++ rawOf y = raws (it.items.take (i + 1)) := by
        rw [List.take_add_one, ey]
        show _ = raws (_ ++ [y])
        rw [raws_append, raws_cons, raws_nil, List.append_nil]
      have hpre : (raws (it.items.take (i + 1))).length ≤ (raws it.items).length := by
        conv => rhs; rw [← List.take_append_drop (i + 1) it.items, raws_append, List.length_append]
        omega
      have hy := ih y hm (raws (it.items.take i)) (by rw [← hsnoc, List.length_append] at hpre; omega)
      rw [hsnoc, y.av_eq] at hy
      rw [y.av_eq]
      refine ⟨rfl, ?_⟩
      simp only [go_sem, ↓reduceIte, Nat.reduceLT, Nat.reduceLeDiff, Nat.reduceAdd, Nat.reduceSub, Nat.reduceMul, Nat.reduceEqDiff, Nat.reduceBEq, Nat.reduceMod, Nat.reduceDiv, Int.reduceToNat, reduceCtorEq, Int.reduceLT, Int.reduceLE, Int.reduceGT, Int.reduceGE, Int.reduceAdd, Int.reduceSub, Int.reduceMul, Int.reduceNeg, Int.reduceEq, Int.reduceNe, Int.reduceBNe, Int.reduceBEq, Int.reduceDiv, cellsI_len, bytesAv, ItemD.cells, ownL_laid, ownL_front, ownL_Each, ownL_alone]
      refine ex_call (by exact hy) ?_
      simp only [go_sem, ↓reduceIte, Nat.reduceLT, Nat.reduceLeDiff, Nat.reduceAdd, Nat.reduceSub, Nat.reduceMul, Nat.reduceEqDiff, Nat.reduceBEq, Nat.reduceMod, Nat.reduceDiv, Int.reduceToNat, reduceCtorEq, Int.reduceLT, Int.reduceLE, Int.reduceGT, Int.reduceGE, Int.reduceAdd, Int.reduceSub, Int.reduceMul, Int.reduceNeg, Int.reduceEq, Int.reduceNe, Int.reduceBNe, Int.reduceBEq, Int.reduceDiv, bytesAv]
    · rw [heach, List.length_map, List.take_length]
      have hh := headB_len (raws it.items).length 192
      have hah := ahead_le (n := (raws it.items).length) (by omega)
      simp only [go_sem, ↓reduceIte, Nat.reduceLT, Nat.reduceLeDiff, Nat.reduceAdd, Nat.reduceSub, Nat.reduceMul, Nat.reduceEqDiff, Nat.reduceBEq, Nat.reduceMod, Nat.reduceDiv, Int.reduceToNat, reduceCtorEq, Int.reduceLT, Int.reduceLE, Int.reduceGT, Int.reduceGE, Int.reduceAdd, Int.reduceSub, Int.reduceMul, Int.reduceNeg, Int.reduceEq, Int.reduceNe, Int.reduceBNe, Int.reduceBEq, Int.reduceDiv, bytesAv]
      refine ex_draw [] [] (.quiet 0 (.quiet 1 (.quiet 2 (.quiet 4 (.one 3 (.one 5 (.quiet 6 (.fin)))))))) (by kernel_rfl) ?_
      simp only [go_sem, ↓reduceIte, Nat.reduceLT, Nat.reduceLeDiff, Nat.reduceAdd, Nat.reduceSub, Nat.reduceMul, Nat.reduceEqDiff, Nat.reduceBEq, Nat.reduceMod, Nat.reduceDiv, Int.reduceToNat, reduceCtorEq, Int.reduceLT, Int.reduceLE, Int.reduceGT, Int.reduceGE, Int.reduceAdd, Int.reduceSub, Int.reduceMul, Int.reduceNeg, Int.reduceEq, Int.reduceNe, Int.reduceBNe, Int.reduceBEq, Int.reduceDiv, bytesAv, List.length_map, ownL_laid, ownL_front, ownL_Each, ownL_alone]
      refine ex_call (by exact c_item_front bs 192 (raws it.items).length (by omega) (by omega) (by omega)) ?_
      simp only [go_sem, ↓reduceIte, Nat.reduceLT, Nat.reduceLeDiff, Nat.reduceAdd, Nat.reduceSub, Nat.reduceMul, Nat.reduceEqDiff, Nat.reduceBEq, Nat.reduceMod, Nat.reduceDiv, Int.reduceToNat, reduceCtorEq, Int.reduceLT, Int.reduceLE, Int.reduceGT, Int.reduceGE, Int.reduceAdd, Int.reduceSub, Int.reduceMul, Int.reduceNeg, Int.reduceEq, Int.reduceNe, Int.reduceBNe, Int.reduceBEq, Int.reduceDiv, bytesAv, List.length_map, List.length_append]
      refine ⟨by omega, ?_⟩
      refine finOne ?_ (fun _ e => by cases e)
      show resOf _ _ [.tmp 4] = _
      simp only [go_sem, ↓reduceIte, Nat.reduceLT, Nat.reduceLeDiff, Nat.reduceAdd, Nat.reduceSub, Nat.reduceMul, Nat.reduceEqDiff, Nat.reduceBEq, Nat.reduceMod, Nat.reduceDiv, Int.reduceToNat, reduceCtorEq, Int.reduceLT, Int.reduceLE, Int.reduceGT, Int.reduceGE, Int.reduceAdd, Int.reduceSub, Int.reduceMul, Int.reduceNeg, Int.reduceEq, Int.reduceNe, Int.reduceBNe, Int.reduceBEq, Int.reduceDiv, List.map_append, List.append_assoc]
termination_by SizeOf.sizeOf it
decreasing_by exact item_lt hx
theorem ownL_Check : ownL 130 = [] := rfl
def bytesI (it : ItemD) : List UInt8 := if okI 0 it = true then rawOf it else []
theorem c_item_Bytes (it : ItemD) (h : it.ok) : Contract Try.prog 112 [it.av] (.tup [.str (bytesI it), .int .i64 (if okI 0 it = true then 0 else 1)]) := by
  have hc := c_item_Check it h
  have hl := c_laid it h [] (by simp)
  rw [ItemD.av_eq] at hc hl
  unfold bytesAv at hl
  rw [List.nil_append] at hl
  unfold bytesI
  refine contract_of (C := cf 13 [1, 2, 3, 4, 8] ( ownL)) (cf_ok _ _ _) (fn := Try.f112) Try.func112 (by kernel_rfl) rfl (by kernel_rfl) (by simp [cf]) (plain1 it.plain) (by decide) (noCell (by kernel_rfl)) ?_
  cases ho : okI 0 it with
  | true =>
    rw [ho] at hc
    simp only [go_sem, ↓reduceIte, Nat.reduceLT, Nat.reduceLeDiff, Nat.reduceAdd, Nat.reduceSub, Nat.reduceMul, Nat.reduceEqDiff, Nat.reduceBEq, Nat.reduceMod, Nat.reduceDiv, Int.reduceToNat, reduceCtorEq, Int.reduceLT, Int.reduceLE, Int.reduceGT, Int.reduceGE, Int.reduceAdd, Int.reduceSub, Int.reduceMul, Int.reduceNeg, Int.reduceEq, Int.reduceNe, Int.reduceBNe, Int.reduceBEq, Int.reduceDiv, ItemD.av_eq, ItemD.cells, ownL_Check]
    refine ex_call (by exact hc) ?_
    simp only [go_sem, ↓reduceIte, Nat.reduceLT, Nat.reduceLeDiff, Nat.reduceAdd, Nat.reduceSub, Nat.reduceMul, Nat.reduceEqDiff, Nat.reduceBEq, Nat.reduceMod, Nat.reduceDiv, Int.reduceToNat, reduceCtorEq, Int.reduceLT, Int.reduceLE, Int.reduceGT, Int.reduceGE, Int.reduceAdd, Int.reduceSub, Int.reduceMul, Int.reduceNeg, Int.reduceEq, Int.reduceNe, Int.reduceBNe, Int.reduceBEq, Int.reduceDiv, ownL_laid]
    refine ex_call (by exact hl) ?_
    simp only [go_sem, ↓reduceIte, Nat.reduceLT, Nat.reduceLeDiff, Nat.reduceAdd, Nat.reduceSub, Nat.reduceMul, Nat.reduceEqDiff, Nat.reduceBEq, Nat.reduceMod, Nat.reduceDiv, Int.reduceToNat, reduceCtorEq, Int.reduceLT, Int.reduceLE, Int.reduceGT, Int.reduceGE, Int.reduceAdd, Int.reduceSub, Int.reduceMul, Int.reduceNeg, Int.reduceEq, Int.reduceNe, Int.reduceBNe, Int.reduceBEq, Int.reduceDiv, asU8_map]
    refine finTup ?_
    show resOf _ _ [.tmp 2, .tmp 3] = _
    simp only [go_sem, ↓reduceIte, Nat.reduceLT, Nat.reduceLeDiff, Nat.reduceAdd, Nat.reduceSub, Nat.reduceMul, Nat.reduceEqDiff, Nat.reduceBEq, Nat.reduceMod, Nat.reduceDiv, Int.reduceToNat, reduceCtorEq, Int.reduceLT, Int.reduceLE, Int.reduceGT, Int.reduceGE, Int.reduceAdd, Int.reduceSub, Int.reduceMul, Int.reduceNeg, Int.reduceEq, Int.reduceNe, Int.reduceBNe, Int.reduceBEq, Int.reduceDiv]
  | false =>
    rw [ho] at hc
    simp only [go_sem, ↓reduceIte, Nat.reduceLT, Nat.reduceLeDiff, Nat.reduceAdd, Nat.reduceSub, Nat.reduceMul, Nat.reduceEqDiff, Nat.reduceBEq, Nat.reduceMod, Nat.reduceDiv, Int.reduceToNat, reduceCtorEq, Int.reduceLT, Int.reduceLE, Int.reduceGT, Int.reduceGE, Int.reduceAdd, Int.reduceSub, Int.reduceMul, Int.reduceNeg, Int.reduceEq, Int.reduceNe, Int.reduceBNe, Int.reduceBEq, Int.reduceDiv, ItemD.av_eq, ItemD.cells, ownL_Check]
    refine ex_call (by exact hc) ?_
    simp only [go_sem, ↓reduceIte, Nat.reduceLT, Nat.reduceLeDiff, Nat.reduceAdd, Nat.reduceSub, Nat.reduceMul, Nat.reduceEqDiff, Nat.reduceBEq, Nat.reduceMod, Nat.reduceDiv, Int.reduceToNat, reduceCtorEq, Int.reduceLT, Int.reduceLE, Int.reduceGT, Int.reduceGE, Int.reduceAdd, Int.reduceSub, Int.reduceMul, Int.reduceNeg, Int.reduceEq, Int.reduceNe, Int.reduceBNe, Int.reduceBEq, Int.reduceDiv]
    refine finTup ?_
    show resOf _ _ [.tmp 2, .tmp 3] = _
    simp only [go_sem, ↓reduceIte, Nat.reduceLT, Nat.reduceLeDiff, Nat.reduceAdd, Nat.reduceSub, Nat.reduceMul, Nat.reduceEqDiff, Nat.reduceBEq, Nat.reduceMod, Nat.reduceDiv, Int.reduceToNat, reduceCtorEq, Int.reduceLT, Int.reduceLE, Int.reduceGT, Int.reduceGE, Int.reduceAdd, Int.reduceSub, Int.reduceMul, Int.reduceNeg, Int.reduceEq, Int.reduceNe, Int.reduceBNe, Int.reduceBEq, Int.reduceDiv]
end Go.Proofs.Ytnamkghgehfphaa.VA
end
section
/- Transactions as bytes. -/
namespace Go.Proofs.Ytnamkghgehfphaa.VA
set_option maxRecDepth 10000
set_option linter.unusedSimpArgs false
set_option linter.unusedVariables false
set_option maxHeartbeats 8000000

theorem c_tx_amount (n : Nat) (hn : n < U) : Contract Try.prog 111 [u n] (.agg [.bool false, .str (bytesOf n), .sl false 3 []]) := by
  have h := c_u256_Text n hn
  unfold u at h
  refine contract_of (C := cf 6 [1, 2] (fun _ => [])) (cf_ok _ _ _) (fn := Try.f111) Try.func111 (by kernel_rfl) rfl (by kernel_rfl) (by simp [cf]) (plain1 (u_plain n)) (by decide) (cellsOk (by kernel_rfl)) ?_
  simp only [go_sem, seval, u]
  refine ex_call (by exact h) ?_
  simp only [go_sem, seval]
  refine finOneD (r' := .agg [.bool false, .str (bytesOf n), .ext nilP]) ?_ (dull_none _ _) (fun _ e => by cases e) (fun _ e => by cases e)
  show resOf _ _ [.cell 2 137] = _
  simp only [go_sem, seval]
theorem c_tx_number (n : Int) (h0 : 0 ≤ n) (h1 : n < 9223372036854775808) : Contract Try.prog 110 [.int .i64 n] (.agg [.bool false, .str (bytesOf n.toNat), .sl false 3 []]) := by
  have h := c_tx_amount n.toNat (lt_U (by omega))
  rw [u_small n.toNat (by omega)] at h
  have w : IntKind.u64.wrap n = (n.toNat : Int) := by rw [wu64 (by omega) (by omega)]; omega
  refine contract_of (C := cf 7 [0, 2] (fun _ => [])) (cf_ok _ _ _) (fn := Try.f110) Try.func110 (by kernel_rfl) rfl (by kernel_rfl) (by simp [cf]) (plain1 (.int _ _)) (by decide) (cellsOk (by kernel_rfl)) ?_
  simp only [go_sem, seval, w]
  refine ex_call (by exact h) ?_
  simp only [go_sem, seval]
  refine finOne ?_ (fun _ e => by cases e)
  show resOf _ _ [.cell 2 137] = _
  simp only [go_sem, seval]
theorem c_ref7_text (s : List UInt8) : Contract Try.prog 114 [.str s] (.agg [.bool false, .str s, .sl false 3 []]) := by
  refine contract_of (C := cf 5 [0, 2] (fun _ => [])) (cf_ok _ _ _) (fn := Try.f114) Try.func114 (by kernel_rfl) rfl (by kernel_rfl) (by simp [cf]) (plain1 (.str _)) (by decide) (cellsOk (by kernel_rfl)) ?_
  simp only [go_sem, seval]
  refine finOneD (r' := .agg [.bool false, .str s, .ext nilP]) ?_ (dull_none _ _) (fun _ e => by cases e) (fun _ e => by cases e)
  show resOf _ _ [.cell 2 137] = _
  simp only [go_sem, seval]
theorem c_ref7_number (n : Int) (h0 : 0 ≤ n) (h1 : n < 9223372036854775808) : Contract Try.prog 117 [.int .i64 n] (.agg [.bool false, .str (bytesOf n.toNat), .sl false 3 []]) := by
  have h2 := c_ref1_Of n.toNat (by omega)
  have h3 := c_ref1_Text n.toNat (lt_U (by omega))
  have e : ((n.toNat : Nat) : Int) = n := Int.toNat_of_nonneg h0
  rw [e] at h2
  unfold u at h2 h3
  refine contract_of (C := cf 7 [0, 2] (fun _ => [])) (cf_ok _ _ _) (fn := Try.f117) Try.func117 (by kernel_rfl) rfl (by kernel_rfl) (by simp [cf]) (plain1 (.int _ _)) (by decide) (cellsOk (by kernel_rfl)) ?_
  simp only [go_sem, seval]
  refine ex_call (by exact h2) ?_
  simp only [go_sem, seval]
  refine ex_call (by exact h3) ?_
  simp only [go_sem, seval]
  refine ex_call (by exact c_ref7_text _) ?_
  simp only [go_sem, seval]
  refine finOne ?_ (fun _ e => by cases e)
  show resOf _ _ [.cell 2 137] = _
  simp only [go_sem, seval]
theorem repI_own {sz i : Nat} {es : List AV} (h : 0 < i) : repI sz i es = .own false sz es := by
  cases i with
  | zero => exact absurd h (by omega)
  | succ i => rfl
abbrev leafA (s : List UInt8) : AV := .agg [.bool false, .str s, .ext nilP]
theorem leaves_dull {α : Type} (s : α → List UInt8) (l : List α) (fr : Bool) : Dull (.agg [.bool true, .str [], .sl fr 3 (l.map fun a => leafA (s a))]) (listI (l.map fun a => leaf (s a))).av := by
  rw [ItemD.av_eq]
  refine dulls_agg (.cons (.refl _) (.cons (.refl _) (.cons ?_ .nil)))
  refine .sl _ _ _ _ (by simp [ItemD.items]) fun j x y h e => ?_
  simp only [ItemD.items, List.getElem?_map, Option.map_eq_some_iff] at h e
  obtain ⟨a, h1, rfl⟩ := h
  obtain ⟨b, ⟨c, h2, rfl⟩, rfl⟩ := e
  rw [h1] at h2
  cases h2
  rw [ItemD.av_eq]
  exact dull_none _ _
abbrev numA (n : Nat) : AV := .agg [.bool false, .str (bytesOf n), .sl false 3 []]
theorem tx_dull (t : TxD) (f1 f2 f3 : Bool) : Dull (.agg [.bool true, .str [], .sl f1 3 [numA t.frm.toNat, numA t.nonce.toNat, numA t.tip, numA t.cap, numA t.bcap, numA t.value, numA t.gas.toNat,
    .agg [.bool true, .str [], .sl f2 3 (t.hashes.map fun h => leafA (textOf h))], .agg [.bool true, .str [], .sl f3 3 (t.blobs.map fun b => leafA b)]]])
    (.agg [.bool (txItem t).list, .str (txItem t).text, .sl false 3 ((txItem t).items.map ItemD.av)]) := by
  have nn : ∀ n, (numI n).av = numA n := fun n => by rw [ItemD.av_eq]; rfl
  have e : (txItem t).items.map ItemD.av = [numA t.frm.toNat, numA t.nonce.toNat, numA t.tip, numA t.cap, numA t.bcap, numA t.value, numA t.gas.toNat, (hashI t).av, (blobI t).av] := by
    show List.map ItemD.av [_, _, _, _, _, _, _, _, _] = _
    simp only [List.map_cons, List.map_nil, nn]
  rw [e]
  refine dulls_agg (.cons (.refl _) (.cons (.refl _) (.cons ?_ .nil)))
  refine .sl _ _ _ _ rfl fun j x y h k => ?_
  match j, h, k with
  | 0, h, k => cases h; cases k; exact .refl _
  | 1, h, k => cases h; cases k; exact .refl _
  | 2, h, k => cases h; cases k; exact .refl _
  | 3, h, k => cases h; cases k; exact .refl _
  | 4, h, k => cases h; cases k; exact .refl _
  | 5, h, k => cases h; cases k; exact .refl _
  | 6, h, k => cases h; cases k; exact .refl _
  | 7, h, k => cases h; cases k; exact leaves_dull textOf t.hashes f2
  | 8, h, k => cases h; cases k; exact leaves_dull (fun b => b) t.blobs f3
  | j + 9, h, k => cases h
def bytesTx (t : TxD) : List UInt8 := if validTx t = true then txRaw t else []
theorem c_BytesI7 (a : ItemD) (ha : a.ok) : Contract Try.prog 112 [.agg [.bool a.list, .str a.text, .sl false 3 (a.items.map ItemD.av)]] (.tup [.str (bytesI a), .int .i64 (if okI 0 a = true then 0 else 1)]) := by
  have h := c_item_Bytes a ha
  rw [a.av_eq] at h
  exact h
theorem c_tx_Bytes (t : TxD) (h : t.ok) : Contract Try.prog 87 [t.av] (.tup [.str (bytesTx t), .int .i64 (if validTx t = true then 0 else 1)]) := by
  have hc := c_tx_Check t h
  unfold TxD.av TxD.cells ints strs at hc
  unfold bytesTx
  cases hv : validTx t with
  | false =>
    rw [hv, if_neg (by simp)] at hc
    refine contract_of (C := cf 74 [1, 2, 3, 4, 5, 6, 7, 8, 9, 13, 17, 18, 19, 20, 21] (fun _ => [])) (cf_ok _ _ _) (fn := Try.f87) Try.func87 (by kernel_rfl) rfl (by kernel_rfl) (by simp [cf]) (plain1 t.plain) (by decide) (noCell (by kernel_rfl)) ?_
    simp only [go_sem, seval, TxD.av, TxD.cells, ints, strs]
    refine ex_call (by exact hc) ?_
    simp only [go_sem, seval]
    refine finTup ?_
    show resOf _ _ [.tmp 2, .tmp 3] = _
    simp only [go_sem, seval]
  | true =>
    have V := valid_of hv
    have h1 := V.one
    have h4 := V.four
    have hhl : t.hashes.length = t.blobs.length := by rw [V.hashes, List.length_map]
    rw [hv, if_pos rfl] at hc
    have n0 := c_tx_number t.frm V.frm.1 (by have := V.frm; omega)
    have n1 := c_tx_number t.nonce V.nonce.1 (by have := V.nonce; omega)
    have n2 := c_tx_amount t.tip h.tip
    have n3 := c_tx_amount t.cap h.cap
    have n4 := c_tx_amount t.bcap h.bcap
    have n5 := c_tx_amount t.value h.value
    have n6 := c_tx_number t.gas V.gas.1 (by have := V.gas; omega)
    unfold u at n2 n3 n4 n5
    have nb := c_BytesI7 (txItem t) (tx_itok h V)
    have hmay := tx_may h V
    rw [hmay, if_pos rfl] at nb
    have hb : bytesI (txItem t) = txRaw t := by unfold bytesI; rw [if_pos hmay]; rfl
    rw [hb] at nb
    rw [if_pos rfl, if_pos rfl]
    refine contract_of (C := cf 74 [1, 2, 3, 4, 5, 6, 7, 8, 9, 13, 17, 18, 19, 20, 21] (fun _ => [])) (cf_ok _ _ _) (fn := Try.f87) Try.func87 (by kernel_rfl) rfl (by kernel_rfl) (by simp [cf]) (plain1 t.plain) (by decide) (noCell (by kernel_rfl)) ?_
    simp only [go_sem, seval, TxD.av, TxD.cells, ints, strs]
    refine ex_call (by exact hc) ?_
    simp only [go_sem, seval, List.length_map]
    refine ex_iter [1, 5, 6, 17, 18, 19, 20] (fun i : Nat => ⟨[(1, .var 1 0), (5, .var 5 0), (6, .var 6 0), (17, .var 1 20), (18, .sl false 1 (t.blobs.map AV.str)), (19, .int .i64 t.blobs.length), (20, .int .i64 i)],
      [(1, [.int .i64 t.frm, .int .i64 t.nonce, .int .u64 (lim t.tip 0), .int .u64 (lim t.tip 1), .int .u64 (lim t.tip 2), .int .u64 (lim t.tip 3),
  .int .u64 (lim t.cap 0), .int .u64 (lim t.cap 1), .int .u64 (lim t.cap 2), .int .u64 (lim t.cap 3), .int .u64 (lim t.bcap 0), .int .u64 (lim t.bcap 1), .int .u64 (lim t.bcap 2), .int .u64 (lim t.bcap 3),
  .int .u64 (lim t.value 0), .int .u64 (lim t.value 1), .int .u64 (lim t.value 2), .int .u64 (lim t.value 3), .int .i64 t.gas, .sl false 1 (t.hashes.map (AV.int .u64)), .sl false 1 (t.blobs.map AV.str)]),
       (5, [.bool true, .str [], repI 3 i ((t.hashes.take i).map fun h => leafA (textOf h))]), (6, [.bool true, .str [], repI 3 i ((t.blobs.take i).map fun b => leafA b)])]⟩)
      (fun i => i ≤ t.blobs.length) (fun i => t.blobs.length - i) 0 ?_ ?_ ?_
    · simp only [ASt.keep, consIf, keepL, keepV, AV.isBot, List.contains_cons, List.contains_nil, Nat.reduceBEq, Bool.or_false, Bool.false_or, Bool.or_true, Bool.true_or, beq_self_eq_true, Bool.false_eq_true, ↓reduceIte, if_false, if_true]
      rfl
    · exact Nat.zero_le _
    · intro r i hi next
      simp only [go_sem, seval]
      refine ex_br (fun hlt => ?_) (fun hlt => ?_)
      · have hlt : i < t.blobs.length := by simpa using hlt
        obtain ⟨b, eb⟩ : ∃ b, t.blobs[i]? = some b := ⟨_, List.getElem?_eq_getElem hlt⟩
        obtain ⟨hh, eh⟩ : ∃ hh, t.hashes[i]? = some hh := ⟨_, List.getElem?_eq_getElem (by omega)⟩
        have s1 : (t.hashes.take i).map (fun h => leafA (textOf h)) ++ [.agg [.bool false, .str (textOf hh), .ext nilP]] = (t.hashes.take (i + 1)).map fun h => leafA (textOf h) := take_snoc (fun h => leafA (textOf h)) eh
        have s2 : (t.blobs.take i).map (fun b => leafA b) ++ [.agg [.bool false, .str b, .ext nilP]] = (t.blobs.take (i + 1)).map fun b => leafA b := take_snoc (fun b => leafA b) eb
        cases i with
        | zero =>
          simp only [go_sem, seval, repI, List.length_map, List.getElem?_map, eb, eh, Int.toNat_natCast, Int.cast_ofNat_Int]
          repeat with_reducible refine And.intro (by first | omega | (simp only [List.length_cons, List.length_append, List.length_nil, List.length_map, List.length_take, List.length_drop, List.length_set]; omega)) ?_
          refine ex_draw [12] [] (.quiet 0 (.quiet 1 (.quiet 2 (.quiet 3 (.quiet 4 (.quiet 5 (.quiet 6 (.one 7 (.one 8 (.one 9 (.one 10 (.quiet 11 (.unlock (.one 12 (.fin))))))))))))))) (by kernel_rfl) ?_
          simp only [go_sem, seval, repI, List.length_map, List.getElem?_map, eb, eh, Int.toNat_natCast, Int.cast_ofNat_Int]
          repeat with_reducible refine And.intro (by first | omega | (simp only [List.length_cons, List.length_append, List.length_nil, List.length_map, List.length_take, List.length_drop, List.length_set]; omega)) ?_
          try simp only [go_sem, seval, eh, Int.toNat_natCast, List.getElem?_map]
          refine ex_call (by exact c_mark_Text hh) ?_
          simp only [go_sem, seval, repI]
          repeat with_reducible refine And.intro (by first | omega | (simp only [List.length_cons, List.length_append, List.length_nil, List.length_map, List.length_take, List.length_drop, List.length_set]; omega)) ?_
          refine next (0 + 1) _ (by omega) (by omega) ?_
          rw [← wi64_nat 0 (by omega), ← s1, ← s2]
          simp only [ASt.keep, consIf, keepL, keepV, AV.isBot, List.contains_cons, List.contains_nil, Nat.reduceBEq, Bool.or_false, Bool.false_or, Bool.or_true, Bool.true_or, beq_self_eq_true, Bool.false_eq_true, ↓reduceIte, if_false, if_true]
          rfl
        | succ i =>
          simp only [go_sem, seval, repI, List.length_map, List.getElem?_map, eb, eh, Int.toNat_natCast]
          repeat with_reducible refine And.intro (by first | omega | (simp only [List.length_cons, List.length_append, List.length_nil, List.length_map, List.length_take, List.length_drop, List.length_set]; omega)) ?_
          try simp only [go_sem, seval, repI, List.length_map, List.getElem?_map, eb, eh, Int.toNat_natCast]
          refine ex_draw [12] [] (.quiet 0 (.quiet 1 (.quiet 2 (.quiet 3 (.quiet 4 (.quiet 5 (.quiet 6 (.one 7 (.one 8 (.one 9 (.one 10 (.quiet 11 (.unlock (.one 12 (.fin))))))))))))))) (by kernel_rfl) ?_
          simp only [go_sem, seval, repI, List.length_map, List.getElem?_map, eb, eh, Int.toNat_natCast]
          repeat with_reducible refine And.intro (by first | omega | (simp only [List.length_cons, List.length_append, List.length_nil, List.length_map, List.length_take, List.length_drop, List.length_set]; omega)) ?_
          try simp only [go_sem, seval, eh, Int.toNat_natCast, List.getElem?_map]
          refine ex_call (by exact c_mark_Text hh) ?_
          simp only [go_sem, seval, repI, List.length_map]
          repeat with_reducible refine And.intro (by first | omega | (simp only [List.length_cons, List.length_append, List.length_nil, List.length_map, List.length_take, List.length_drop, List.length_set]; omega)) ?_
          try simp only [go_sem, seval, repI, List.length_map]
          repeat with_reducible refine And.intro (by first | omega | (simp only [List.length_cons, List.length_append, List.length_nil, List.length_map, List.length_take, List.length_drop, List.length_set]; omega)) ?_
          refine next (i + 1 + 1) _ (by omega) (by omega) ?_
          rw [← wi64_nat (i + 1) (by omega), ← s1, ← s2]
          simp only [ASt.keep, consIf, keepL, keepV, AV.isBot, List.contains_cons, List.contains_nil, Nat.reduceBEq, Bool.or_false, Bool.false_or, Bool.or_true, Bool.true_or, beq_self_eq_true, Bool.false_eq_true, ↓reduceIte, if_false, if_true]
          rfl
      · have hge : i = t.blobs.length := by simp at hlt; omega
        subst hge
        have p1 := repI_own (sz := 3) (i := t.blobs.length) (es := t.hashes.map fun h => leafA (textOf h)) (by omega)
        have p2 := repI_own (sz := 3) (i := t.blobs.length) (es := t.blobs.map fun b => leafA b) (by omega)
        rw [show t.hashes.take t.blobs.length = t.hashes by rw [← hhl, List.take_length], List.take_length, p1, p2]
        simp only [go_sem, seval]
        refine ex_draw [] [] (.quiet 0 (.quiet 1 (.quiet 3 (.quiet 4 (.quiet 6 (.quiet 7 (.quiet 9 (.quiet 10 (.quiet 12 (.quiet 13 (.quiet 15 (.quiet 16 (.quiet 18 (.quiet 19 (.quiet 21 (.quiet 22 (.one 2 (.one 5 (.one 8 (.one 11 (.one 14 (.one 17 (.one 20 (.one 23 (.quiet 24 (.fin)))))))))))))))))))))))))) (by kernel_rfl) ?_
        simp only [go_sem, seval]
        refine ex_call (by exact n0) ?_
        simp only [go_sem, seval]
        refine ex_call (by exact n1) ?_
        simp only [go_sem, seval]
        refine ex_call (by exact n2) ?_
        simp only [go_sem, seval]
        refine ex_call (by exact n3) ?_
        simp only [go_sem, seval]
        refine ex_call (by exact n4) ?_
        simp only [go_sem, seval]
        refine ex_call (by exact n5) ?_
        simp only [go_sem, seval]
        refine ex_call (by exact n6) ?_
        simp only [go_sem, seval]
        refine ex_call_dull (.cons (tx_dull t _ _ _) .nil) (by exact nb) ?_
        simp only [go_sem, seval]
        refine finTup ?_
        show resOf _ _ [.tmp 2, .tmp 3] = _
        simp only [go_sem, seval]
end Go.Proofs.Ytnamkghgehfphaa.VA
end
section
/- Transactions as bytes: the page's own; IDs. -/
namespace Go.Proofs.Ytnamkghgehfphaa.VA
set_option maxRecDepth 10000
set_option linter.unusedSimpArgs false
set_option linter.unusedVariables false
set_option maxHeartbeats 8000000

theorem leaves_dull2 {α : Type} (s : α → List UInt8) (l : List α) (fr : Bool) : Dull (.agg [.bool true, .str [], .sl fr 3 (l.map fun a => .agg [.bool false, .str (s a), .sl false 3 []])]) (listI (l.map fun a => leaf (s a))).av := by
  rw [ItemD.av_eq]
  refine dulls_agg (.cons (.refl _) (.cons (.refl _) (.cons ?_ .nil)))
  refine .sl _ _ _ _ (by simp [ItemD.items]) fun j x y h e => ?_
  simp only [ItemD.items, List.getElem?_map, Option.map_eq_some_iff] at h e
  obtain ⟨a, h1, rfl⟩ := h
  obtain ⟨b, ⟨c, h2, rfl⟩, rfl⟩ := e
  rw [h1] at h2
  cases h2
  rw [ItemD.av_eq]
  exact .refl _
theorem tx_dull2 (t : TxD) (f1 f2 f3 : Bool) : Dull (.agg [.bool true, .str [], .sl f1 3 [numA t.frm.toNat, numA t.nonce.toNat, numA t.tip, numA t.cap, numA t.bcap, numA t.value, numA t.gas.toNat,
    .agg [.bool true, .str [], .sl f2 3 (t.hashes.map fun h => .agg [.bool false, .str (textOf h), .sl false 3 []])], .agg [.bool true, .str [], .sl f3 3 (t.blobs.map fun b => .agg [.bool false, .str b, .sl false 3 []])]]])
    (.agg [.bool (txItem t).list, .str (txItem t).text, .sl false 3 ((txItem t).items.map ItemD.av)]) := by
  have nn : ∀ n, (numI n).av = numA n := fun n => by rw [ItemD.av_eq]; rfl
  have e : (txItem t).items.map ItemD.av = [numA t.frm.toNat, numA t.nonce.toNat, numA t.tip, numA t.cap, numA t.bcap, numA t.value, numA t.gas.toNat, (hashI t).av, (blobI t).av] := by
    show List.map ItemD.av [_, _, _, _, _, _, _, _, _] = _
    simp only [List.map_cons, List.map_nil, nn]
  rw [e]
  refine dulls_agg (.cons (.refl _) (.cons (.refl _) (.cons ?_ .nil)))
  refine .sl _ _ _ _ rfl fun j x y h k => ?_
  match j, h, k with
  | 0, h, k => cases h; cases k; exact .refl _
  | 1, h, k => cases h; cases k; exact .refl _
  | 2, h, k => cases h; cases k; exact .refl _
  | 3, h, k => cases h; cases k; exact .refl _
  | 4, h, k => cases h; cases k; exact .refl _
  | 5, h, k => cases h; cases k; exact .refl _
  | 6, h, k => cases h; cases k; exact .refl _
  | 7, h, k => cases h; cases k; exact leaves_dull2 textOf t.hashes f2
  | 8, h, k => cases h; cases k; exact leaves_dull2 (fun b => b) t.blobs f3
  | j + 9, h, k => cases h
theorem c_ref7_Bytes (t : TxD) (h : t.ok) (hv : validTx t = true) : Contract Try.prog 90 [t.av] (.str (txRaw t)) := by
  have V := valid_of hv
  have h1 := V.one
  have h4 := V.four
  have hhl : t.hashes.length = t.blobs.length := by rw [V.hashes, List.length_map]
  have n0 := c_ref7_number t.frm V.frm.1 (by have := V.frm; omega)
  have n1 := c_ref7_number t.nonce V.nonce.1 (by have := V.nonce; omega)
  have n2 := c_ref1_Text t.tip h.tip
  have n3 := c_ref1_Text t.cap h.cap
  have n4 := c_ref1_Text t.bcap h.bcap
  have n5 := c_ref1_Text t.value h.value
  have n6 := c_ref7_number t.gas V.gas.1 (by have := V.gas; omega)
  unfold u at n2 n3 n4 n5
  have nb := c_ref4_Item (txItem t) (tx_itok h V)
  have hmay := tx_may h V
  rw [hmay, if_pos rfl, (txItem t).av_eq] at nb
  have leafD : ∀ (s : List UInt8), AV.agg [.bool false, .str s, .sl false 3 []] = (leaf s).av := fun s => by rw [ItemD.av_eq]; rfl
  refine contract_of (C := cf 82 [1, 2, 3, 4, 5, 6, 7, 15, 34] (fun _ => [])) (cf_ok _ _ _) (fn := Try.f90) Try.func90 (by kernel_rfl) rfl (by kernel_rfl) (by simp [cf]) (plain1 t.plain) (by decide) (noCell (by kernel_rfl)) ?_
  simp only [go_sem, seval, TxD.av, TxD.cells, ints, strs]
  obtain ⟨cs, hcs⟩ : ∃ cs : List AV, cs = [.int .i64 t.frm, .int .i64 t.nonce, .int .u64 (lim t.tip 0), .int .u64 (lim t.tip 1), .int .u64 (lim t.tip 2), .int .u64 (lim t.tip 3),
  .int .u64 (lim t.cap 0), .int .u64 (lim t.cap 1), .int .u64 (lim t.cap 2), .int .u64 (lim t.cap 3), .int .u64 (lim t.bcap 0), .int .u64 (lim t.bcap 1), .int .u64 (lim t.bcap 2), .int .u64 (lim t.bcap 3),
  .int .u64 (lim t.value 0), .int .u64 (lim t.value 1), .int .u64 (lim t.value 2), .int .u64 (lim t.value 3), .int .i64 t.gas, .sl false 1 (t.hashes.map (AV.int .u64)), .sl false 1 (t.blobs.map AV.str)] := ⟨_, rfl⟩
  have el : ∀ s : List UInt8, AV.agg [.bool false, .str s, .sl false 3 []] = .agg [.bool false, .str s, .sl false 3 []] := fun _ => rfl
  refine ex_iter [1, 3, 4, 5] (fun i : Nat => ⟨[(1, .var 1 0), (3, .var 3 0), (4, .var 4 0), (5, .int .i64 i)],
      [(1, cs), (3, [.bool true, .str [], repI 3 i ((t.hashes.take i).map fun h => .agg [.bool false, .str (textOf h), .sl false 3 []])]), (4, [.bool true, .str [], .ext nilP])]⟩)
      (fun i => i ≤ t.hashes.length) (fun i => t.hashes.length - i) 0 ?_ ?_ ?_
  · simp only [ASt.keep, consIf, keepL, keepV, AV.isBot, List.contains_cons, List.contains_nil, Nat.reduceBEq, Bool.or_false, Bool.false_or, Bool.or_true, Bool.true_or, beq_self_eq_true, Bool.false_eq_true, ↓reduceIte, if_false, if_true]
    rw [hcs]
    rfl
  · exact Nat.zero_le _
  · intro r i hi next
    simp only [go_sem, seval, hcs, List.length_map]
    refine ex_br (fun hlt => ?_) (fun hlt => ?_)
    · have hlt : i < t.hashes.length := by simpa using hlt
      obtain ⟨hh, eh⟩ : ∃ hh, t.hashes[i]? = some hh := ⟨_, List.getElem?_eq_getElem (by omega)⟩
      have s1 : (t.hashes.take i).map (fun h => AV.agg [.bool false, .str (textOf h), .sl false 3 []]) ++ [.agg [.bool false, .str (textOf hh), .sl false 3 []]] = (t.hashes.take (i + 1)).map fun h => .agg [.bool false, .str (textOf h), .sl false 3 []] := take_snoc (fun h => AV.agg [.bool false, .str (textOf h), .sl false 3 []]) eh
      cases i with
      | zero =>
        simp only [go_sem, seval, repI]
        refine ex_draw [12] [] (.quiet 0 (.quiet 1 (.quiet 2 (.quiet 3 (.quiet 4 (.quiet 5 (.quiet 6 (.one 7 (.one 8 (.one 9 (.one 10 (.quiet 11 (.unlock (.one 12 (.fin))))))))))))))) (by kernel_rfl) ?_
        simp only [go_sem, seval, repI, List.length_map, List.getElem?_map, eh, Int.toNat_natCast, Int.cast_ofNat_Int]
        repeat with_reducible refine And.intro (by first | omega | (simp only [List.length_cons, List.length_append, List.length_nil, List.length_map, List.length_take, List.length_drop, List.length_set]; omega)) ?_
        try simp only [go_sem, seval, eh, Int.toNat_natCast, List.getElem?_map]
        refine ex_call (by exact c_ref4_MarkText hh) ?_
        simp only [go_sem, seval]
        refine ex_call (by exact c_ref7_text _) ?_
        simp only [go_sem, seval, repI]
        repeat with_reducible refine And.intro (by first | omega | (simp only [List.length_cons, List.length_append, List.length_nil, List.length_map, List.length_take, List.length_drop, List.length_set]; omega)) ?_
        refine next (0 + 1) _ (by omega) (by omega) ?_
        rw [← wi64_nat 0 (by omega), ← s1, hcs]
        simp only [ASt.keep, consIf, keepL, keepV, AV.isBot, List.contains_cons, List.contains_nil, Nat.reduceBEq, Bool.or_false, Bool.false_or, Bool.or_true, Bool.true_or, beq_self_eq_true, Bool.false_eq_true, ↓reduceIte, if_false, if_true]
        rfl
      | succ i =>
        simp only [go_sem, seval, repI]
        refine ex_draw [12] [] (.quiet 0 (.quiet 1 (.quiet 2 (.quiet 3 (.quiet 4 (.quiet 5 (.quiet 6 (.one 7 (.one 8 (.one 9 (.one 10 (.quiet 11 (.unlock (.one 12 (.fin))))))))))))))) (by kernel_rfl) ?_
        simp only [go_sem, seval, repI, List.length_map, List.getElem?_map, eh, Int.toNat_natCast]
        repeat with_reducible refine And.intro (by first | omega | (simp only [List.length_cons, List.length_append, List.length_nil, List.length_map, List.length_take, List.length_drop, List.length_set]; omega)) ?_
        try simp only [go_sem, seval, eh, Int.toNat_natCast, List.getElem?_map]
        refine ex_call (by exact c_ref4_MarkText hh) ?_
        simp only [go_sem, seval]
        refine ex_call (by exact c_ref7_text _) ?_
        simp only [go_sem, seval, repI, List.length_map]
        repeat with_reducible refine And.intro (by first | omega | (simp only [List.length_cons, List.length_append, List.length_nil, List.length_map, List.length_take, List.length_drop, List.length_set]; omega)) ?_
        refine next (i + 1 + 1) _ (by omega) (by omega) ?_
        rw [← wi64_nat (i + 1) (by omega), ← s1, hcs]
        simp only [ASt.keep, consIf, keepL, keepV, AV.isBot, List.contains_cons, List.contains_nil, Nat.reduceBEq, Bool.or_false, Bool.false_or, Bool.or_true, Bool.true_or, beq_self_eq_true, Bool.false_eq_true, ↓reduceIte, if_false, if_true]
        rfl
    · have hge : i = t.hashes.length := by simp at hlt; omega
      subst hge
      have p1 := repI_own (sz := 3) (i := t.hashes.length) (es := t.hashes.map fun h => .agg [.bool false, .str (textOf h), .sl false 3 []]) (by omega)
      rw [List.take_length, p1]
      simp only [go_sem, seval]
      refine ex_iter [1, 3, 4, 6] (fun i : Nat => ⟨[(1, .var 1 0), (3, .var 3 0), (4, .var 4 0), (6, .int .i64 i)],
          [(1, cs), (3, [.bool true, .str [], .own false 3 (t.hashes.map fun h => .agg [.bool false, .str (textOf h), .sl false 3 []])]), (4, [.bool true, .str [], repI 3 i ((t.blobs.take i).map fun b => .agg [.bool false, .str b, .sl false 3 []])])]⟩)
          (fun i => i ≤ t.blobs.length) (fun i => t.blobs.length - i) 0 ?_ ?_ ?_
      · simp only [ASt.keep, consIf, keepL, keepV, AV.isBot, List.contains_cons, List.contains_nil, Nat.reduceBEq, Bool.or_false, Bool.false_or, Bool.or_true, Bool.true_or, beq_self_eq_true, Bool.false_eq_true, ↓reduceIte, if_false, if_true]
        rw [hcs]
        rfl
      · exact Nat.zero_le _
      · intro r2 i hi2 next2
        simp only [go_sem, seval, hcs, List.length_map]
        refine ex_br (fun hlt => ?_) (fun hlt => ?_)
        · have hlt : i < t.blobs.length := by simpa using hlt
          obtain ⟨b, eb⟩ : ∃ b, t.blobs[i]? = some b := ⟨_, List.getElem?_eq_getElem (by omega)⟩
          have s1 : (t.blobs.take i).map (fun b => AV.agg [.bool false, .str b, .sl false 3 []]) ++ [.agg [.bool false, .str b, .sl false 3 []]] = (t.blobs.take (i + 1)).map fun b => .agg [.bool false, .str b, .sl false 3 []] := take_snoc (fun b => AV.agg [.bool false, .str b, .sl false 3 []]) eb
          cases i with
          | zero =>
            simp only [go_sem, seval, repI]
            refine ex_draw [11] [] (.quiet 0 (.quiet 1 (.quiet 2 (.quiet 3 (.quiet 4 (.quiet 5 (.quiet 6 (.one 7 (.one 8 (.one 9 (.quiet 10 (.unlock (.one 11 (.fin)))))))))))))) (by kernel_rfl) ?_
            simp only [go_sem, seval, repI, List.length_map, List.getElem?_map, eb, Int.toNat_natCast, Int.cast_ofNat_Int]
            repeat with_reducible refine And.intro (by first | omega | (simp only [List.length_cons, List.length_append, List.length_nil, List.length_map, List.length_take, List.length_drop, List.length_set]; omega)) ?_
            try simp only [go_sem, seval, eb, Int.toNat_natCast, List.getElem?_map]
            refine ex_call (by exact c_ref7_text _) ?_
            simp only [go_sem, seval, repI]
            repeat with_reducible refine And.intro (by first | omega | (simp only [List.length_cons, List.length_append, List.length_nil, List.length_map, List.length_take, List.length_drop, List.length_set]; omega)) ?_
            refine next2 (0 + 1) _ (by omega) (by omega) ?_
            rw [← wi64_nat 0 (by omega), ← s1, hcs]
            simp only [ASt.keep, consIf, keepL, keepV, AV.isBot, List.contains_cons, List.contains_nil, Nat.reduceBEq, Bool.or_false, Bool.false_or, Bool.or_true, Bool.true_or, beq_self_eq_true, Bool.false_eq_true, ↓reduceIte, if_false, if_true]
            rfl
          | succ i =>
            simp only [go_sem, seval, repI]
            refine ex_draw [11] [] (.quiet 0 (.quiet 1 (.quiet 2 (.quiet 3 (.quiet 4 (.quiet 5 (.quiet 6 (.one 7 (.one 8 (.one 9 (.quiet 10 (.unlock (.one 11 (.fin)))))))))))))) (by kernel_rfl) ?_
            simp only [go_sem, seval, repI, List.length_map, List.getElem?_map, eb, Int.toNat_natCast]
            repeat with_reducible refine And.intro (by first | omega | (simp only [List.length_cons, List.length_append, List.length_nil, List.length_map, List.length_take, List.length_drop, List.length_set]; omega)) ?_
            try simp only [go_sem, seval, eb, Int.toNat_natCast, List.getElem?_map]
            refine ex_call (by exact c_ref7_text _) ?_
            simp only [go_sem, seval, repI, List.length_map]
            repeat with_reducible refine And.intro (by first | omega | (simp only [List.length_cons, List.length_append, List.length_nil, List.length_map, List.length_take, List.length_drop, List.length_set]; omega)) ?_
            refine next2 (i + 1 + 1) _ (by omega) (by omega) ?_
            rw [← wi64_nat (i + 1) (by omega), ← s1, hcs]
            simp only [ASt.keep, consIf, keepL, keepV, AV.isBot, List.contains_cons, List.contains_nil, Nat.reduceBEq, Bool.or_false, Bool.false_or, Bool.or_true, Bool.true_or, beq_self_eq_true, Bool.false_eq_true, ↓reduceIte, if_false, if_true]
            rfl
        · have hge : i = t.blobs.length := by simp at hlt; omega
          subst hge
          have p2 := repI_own (sz := 3) (i := t.blobs.length) (es := t.blobs.map fun b => .agg [.bool false, .str b, .sl false 3 []]) (by omega)
          rw [List.take_length, p2]
          simp only [go_sem, seval]
          refine ex_draw [] [] (.quiet 0 (.quiet 1 (.quiet 3 (.quiet 4 (.quiet 6 (.quiet 7 (.quiet 10 (.quiet 11 (.quiet 14 (.quiet 15 (.quiet 18 (.quiet 19 (.quiet 22 (.quiet 23 (.quiet 25 (.quiet 26 (.one 2 (.one 5 (.one 8 (.one 9 (.one 12 (.one 13 (.one 16 (.one 17 (.one 20 (.one 21 (.one 24 (.one 27 (.one 28 (.one 29 (.quiet 30 (.quiet 31 (.quiet 32 (.quiet 33 (.quiet 34 (.fin)))))))))))))))))))))))))))))))))))) (by kernel_rfl) ?_
          simp only [go_sem, seval]
          refine ex_call (by exact n0) ?_
          simp only [go_sem, seval]
          refine ex_call (by exact n1) ?_
          simp only [go_sem, seval]
          refine ex_call (by exact n2) ?_
          simp only [go_sem, seval]
          refine ex_call (by exact c_ref7_text _) ?_
          simp only [go_sem, seval]
          refine ex_call (by exact n3) ?_
          simp only [go_sem, seval]
          refine ex_call (by exact c_ref7_text _) ?_
          simp only [go_sem, seval]
          refine ex_call (by exact n4) ?_
          simp only [go_sem, seval]
          refine ex_call (by exact c_ref7_text _) ?_
          simp only [go_sem, seval]
          refine ex_call (by exact n5) ?_
          simp only [go_sem, seval]
          refine ex_call (by exact c_ref7_text _) ?_
          simp only [go_sem, seval]
          refine ex_call (by exact n6) ?_
          simp only [go_sem, seval]
          refine ex_call_dull (.cons (tx_dull2 t _ _ _) .nil) (by exact nb) ?_
          simp only [go_sem, seval]
          refine finOne ?_ (fun _ e => by cases e)
          show resOf _ _ [.tmp 2] = _
          simp only [go_sem, seval]
          rfl
def idTx (t : TxD) : Int := markOf (txRaw t)
theorem c_ref7_ID (t : TxD) (h : t.ok) (hv : validTx t = true) : Contract Try.prog 57 [t.av] (.int .u64 (idTx t)) := by
  have hb := c_ref7_Bytes t h hv
  have hl := txRaw_len h (valid_of hv)
  unfold TxD.av TxD.cells ints strs at hb
  refine contract_of (C := cf 6 [1, 2] (fun _ => [])) (cf_ok _ _ _) (fn := Try.f57) Try.func57 (by kernel_rfl) rfl (by kernel_rfl) (by simp [cf]) (plain1 t.plain) (by decide) (noCell (by kernel_rfl)) ?_
  simp only [go_sem, seval, TxD.av, TxD.cells, ints, strs]
  refine ex_call (by exact hb) ?_
  simp only [go_sem, seval]
  refine ex_call (by exact c_ref4_Mark (txRaw t) (by omega)) ?_
  simp only [go_sem, seval]
  refine finOne ?_ (fun _ e => by cases e)
  show resOf _ _ [.tmp 2] = _
  simp only [go_sem, seval]
  rfl
theorem c_tx_ID (t : TxD) (h : t.ok) : Contract Try.prog 93 [t.av] (.tup [.int .u64 (if validTx t = true then idTx t else 0), .int .i64 (if validTx t = true then 0 else 1)]) := by
  have hb := c_tx_Bytes t h
  unfold bytesTx at hb
  unfold TxD.av TxD.cells ints strs at hb
  cases hv : validTx t with
  | false =>
    rw [hv] at hb
    refine contract_of (C := cf 16 [1, 2, 3, 4, 5, 12] (fun _ => [])) (cf_ok _ _ _) (fn := Try.f93) Try.func93 (by kernel_rfl) rfl (by kernel_rfl) (by simp [cf]) (plain1 t.plain) (by decide) (noCell (by kernel_rfl)) ?_
    simp only [go_sem, seval, TxD.av, TxD.cells, ints, strs]
    refine ex_call (by exact hb) ?_
    simp only [go_sem, seval]
    refine finTup ?_
    show resOf _ _ [.tmp 2, .tmp 3] = _
    simp only [go_sem, seval]
  | true =>
    have hl := txRaw_len h (valid_of hv)
    rw [hv] at hb
    refine contract_of (C := cf 16 [1, 2, 3, 4, 5, 12] (fun _ => [])) (cf_ok _ _ _) (fn := Try.f93) Try.func93 (by kernel_rfl) rfl (by kernel_rfl) (by simp [cf]) (plain1 t.plain) (by decide) (noCell (by kernel_rfl)) ?_
    simp only [go_sem, seval, TxD.av, TxD.cells, ints, strs]
    refine ex_call (by exact hb) ?_
    simp only [go_sem, seval]
    refine ex_call (by exact c_mark_Mark (txRaw t) (by omega)) ?_
    simp only [go_sem, seval]
    refine finTup ?_
    show resOf _ _ [.tmp 2, .tmp 3] = _
    simp only [go_sem, seval]
    rfl
end Go.Proofs.Ytnamkghgehfphaa.VA
end
section
/- Which of two is kept. -/
namespace Go.Proofs.Ytnamkghgehfphaa.VA
set_option maxRecDepth 10000
set_option linter.unusedSimpArgs false
set_option linter.unusedVariables false
set_option maxHeartbeats 16000000

def betterOf (a b : TxD) : Bool :=
  if a.bcap ≠ b.bcap then decide (a.bcap < b.bcap) else if a.cap ≠ b.cap then decide (a.cap < b.cap) else if a.tip ≠ b.tip then decide (a.tip < b.tip) else Op.bytesLess (txRaw a) (txRaw b)
theorem cmpOf_gt {n m : Nat} (h : m < n) : cmpOf n m = 1 := by unfold cmpOf; rw [if_neg (by omega), if_pos h]
theorem cmpOf_lt {n m : Nat} (h : n < m) : cmpOf n m = -1 := by unfold cmpOf; rw [if_pos h]
theorem cmpOf_eq (n : Nat) : cmpOf n n = 0 := by unfold cmpOf; rw [if_neg (by omega), if_neg (by omega)]
theorem pair_valid {a b : TxD} (h : pairOf a b = true) : validTx a = true ∧ validTx b = true ∧ a.frm = b.frm ∧ a.nonce = b.nonce := by
  unfold pairOf at h
  simp only [Bool.and_eq_true, beq_iff_eq] at h
  exact ⟨h.1.1.1, h.1.1.2, h.1.2, h.2⟩
theorem c_bump_Better (a b : TxD) (ha : a.ok) (hb : b.ok) : Contract Try.prog 39 [a.av, b.av] (.tup [.bool (pairOf a b && betterOf a b), .int .i64 (if pairOf a b = true then 0 else 1)]) := by
  have hr := c_rivals a b ha hb
  have hfa := c_fees a
  have hfb := c_fees b
  unfold TxD.av TxD.cells ints strs at hr hfa hfb
  cases hp : pairOf a b with
  | false =>
    rw [hp] at hr
    rw [if_neg (by simp)]
    refine contract_of (C := cf 49 [2, 3, 4, 5, 6, 7, 8, 9, 11, 16, 20, 21, 22, 29, 30, 32] (fun _ => [])) (cf_ok _ _ _) (fn := Try.f39) Try.func39 (by kernel_rfl) rfl (by kernel_rfl) (by simp [cf]) (plain2 a.plain b.plain) (by decide) (noCell (by kernel_rfl)) ?_
    simp only [go_sem, seval, TxD.av, TxD.cells, ints, strs]
    refine ex_call (by exact hr) ?_
    simp only [go_sem, seval]
    refine finTup ?_
    show resOf _ _ [.tmp 4, .tmp 5] = _
    simp only [go_sem, seval]
  | true =>
    obtain ⟨va, vb, _, _⟩ := pair_valid hp
    have hba := c_tx_Bytes a ha
    have hbb := c_tx_Bytes b hb
    unfold bytesTx at hba hbb
    rw [va, if_pos rfl, if_pos rfl] at hba
    rw [vb, if_pos rfl, if_pos rfl] at hbb
    unfold TxD.av TxD.cells ints strs at hba hbb
    have m1 := c_u256_Cmp b.bcap a.bcap hb.bcap ha.bcap
    have m2 := c_u256_Cmp b.cap a.cap hb.cap ha.cap
    have m3 := c_u256_Cmp b.tip a.tip hb.tip ha.tip
    unfold u at m1 m2 m3
    rw [hp] at hr
    rw [if_pos rfl]
    unfold betterOf
    refine contract_of (C := cf 49 [2, 3, 4, 5, 6, 7, 8, 9, 11, 16, 20, 21, 22, 29, 30, 32] (fun _ => [])) (cf_ok _ _ _) (fn := Try.f39) Try.func39 (by kernel_rfl) rfl (by kernel_rfl) (by simp [cf]) (plain2 a.plain b.plain) (by decide) (noCell (by kernel_rfl)) ?_
    simp only [go_sem, seval, TxD.av, TxD.cells, ints, strs]
    refine ex_call (by exact hr) ?_
    simp only [go_sem, seval]
    refine ex_call (by exact hfb) ?_
    simp only [go_sem, seval]
    refine ex_call (by exact hfa) ?_
    simp only [go_sem, seval]
    refine ex_loop [2, 3, 6, 20, 21] 4 ?_
    simp only [go_sem, seval, ex_round, Int.cast_ofNat_Int, wi64]
    refine ex_draw [] [] (.quiet 0 (.quiet 1 (.quiet 2 (.quiet 3 (.one 4 (.fin)))))) (by kernel_rfl) ?_
    simp only [go_sem, seval, Int.cast_ofNat_Int]
    refine ex_call (by exact m1) ?_
    rcases Nat.lt_trichotomy a.bcap b.bcap with h1 | h1 | h1
    · rw [cmpOf_gt h1, if_pos (show a.bcap ≠ b.bcap by omega), decide_eq_true h1]
      simp only [go_sem, seval]
      refine finTup ?_
      show resOf _ _ [.tmp 4, .tmp 5] = _
      simp only [go_sem, seval]
    case' inr.inr =>
      rw [cmpOf_lt h1, if_pos (show a.bcap ≠ b.bcap by omega), decide_eq_false (show ¬ a.bcap < b.bcap by omega)]
      simp only [go_sem, seval]
      refine finTup ?_
      show resOf _ _ [.tmp 4, .tmp 5] = _
      simp only [go_sem, seval]
    rw [if_neg (show ¬ a.bcap ≠ b.bcap by omega), h1, cmpOf_eq]
    simp only [go_sem, seval, ex_round, Int.cast_ofNat_Int, wi64]
    refine ex_draw [] [] (.quiet 0 (.quiet 1 (.quiet 2 (.quiet 3 (.one 4 (.fin)))))) (by kernel_rfl) ?_
    simp only [go_sem, seval, Int.cast_ofNat_Int]
    refine ex_call (by exact m2) ?_
    rcases Nat.lt_trichotomy a.cap b.cap with h2 | h2 | h2
    · rw [cmpOf_gt h2, if_pos (show a.cap ≠ b.cap by omega), decide_eq_true h2]
      simp only [go_sem, seval]
      refine finTup ?_
      show resOf _ _ [.tmp 4, .tmp 5] = _
      simp only [go_sem, seval]
    case' inr.inr =>
      rw [cmpOf_lt h2, if_pos (show a.cap ≠ b.cap by omega), decide_eq_false (show ¬ a.cap < b.cap by omega)]
      simp only [go_sem, seval]
      refine finTup ?_
      show resOf _ _ [.tmp 4, .tmp 5] = _
      simp only [go_sem, seval]
    rw [if_neg (show ¬ a.cap ≠ b.cap by omega), h2, cmpOf_eq]
    simp only [go_sem, seval, ex_round, Int.cast_ofNat_Int, wi64]
    refine ex_draw [] [] (.quiet 0 (.quiet 1 (.quiet 2 (.quiet 3 (.one 4 (.fin)))))) (by kernel_rfl) ?_
    simp only [go_sem, seval, Int.cast_ofNat_Int]
    refine ex_call (by exact m3) ?_
    rcases Nat.lt_trichotomy a.tip b.tip with h3 | h3 | h3
    · rw [cmpOf_gt h3, if_pos (show a.tip ≠ b.tip by omega), decide_eq_true h3]
      simp only [go_sem, seval]
      refine finTup ?_
      show resOf _ _ [.tmp 4, .tmp 5] = _
      simp only [go_sem, seval]
    case' inr.inr =>
      rw [cmpOf_lt h3, if_pos (show a.tip ≠ b.tip by omega), decide_eq_false (show ¬ a.tip < b.tip by omega)]
      simp only [go_sem, seval]
      refine finTup ?_
      show resOf _ _ [.tmp 4, .tmp 5] = _
      simp only [go_sem, seval]
    rw [if_neg (show ¬ a.tip ≠ b.tip by omega), h3, cmpOf_eq]
    simp only [go_sem, seval, ex_round, Int.cast_ofNat_Int, wi64]
    rw [h1, h2, h3] at hba
    refine ex_call (by exact hba) ?_
    simp only [go_sem, seval]
    refine ex_call (by exact hbb) ?_
    simp only [go_sem, seval]
    refine ex_call (by exact c_Compare (txRaw b) (txRaw a)) ?_
    simp only [go_sem, seval, less_cmp]
    refine finTup ?_
    show resOf _ _ [.tmp 4, .tmp 5] = _
    simp only [go_sem, seval]
/-! The page's own. -/
theorem cmp_ge {n m : Nat} : decide (cmpOf n m ≥ 0) = decide (m ≤ n) := by
  unfold cmpOf
  rw [Bool.eq_iff_iff]
  simp only [decide_eq_true_eq]
  split <;> (try split) <;> omega
theorem c_ref14_twice (m n : Nat) (hm : m < U) (hn : n < U) : Contract Try.prog 89 [u m, u n] (.bool (twice n m)) := by
  have h1 := c_ref1_Add n n hn hn
  unfold u at h1
  unfold twice
  rcases Decidable.em (n + n < U) with hl | hl
  · rw [if_pos hl, decide_eq_true hl] at h1
    rw [decide_eq_true hl]
    have h2 := c_ref1_Cmp m (n + n) hm hl
    unfold u at h2
    refine contract_of (C := cf 20 [2, 3, 4, 5, 6] (fun _ => [])) (cf_ok _ _ _) (fn := Try.f89) Try.func89 (by kernel_rfl) rfl (by kernel_rfl) (by simp [cf]) (plain2 (u_plain m) (u_plain n)) (by decide) (noCell (by kernel_rfl)) ?_
    simp only [go_sem, seval, u]
    refine ex_call (by exact h1) ?_
    simp only [go_sem, seval]
    refine ex_call (by exact h2) ?_
    simp only [go_sem, seval, cmp_ge]
    refine finOne ?_ (fun _ e => by cases e)
    show resOf _ _ [.tmp 4] = _
    simp only [go_sem, seval]
  · rw [if_neg hl, decide_eq_false hl] at h1
    rw [decide_eq_false hl]
    refine contract_of (C := cf 20 [2, 3, 4, 5, 6] (fun _ => [])) (cf_ok _ _ _) (fn := Try.f89) Try.func89 (by kernel_rfl) rfl (by kernel_rfl) (by simp [cf]) (plain2 (u_plain m) (u_plain n)) (by decide) (noCell (by kernel_rfl)) ?_
    simp only [go_sem, seval, u]
    refine ex_call (by exact h1) ?_
    simp only [go_sem, seval]
    refine finOne ?_ (fun _ e => by cases e)
    show resOf _ _ [.tmp 4] = _
    simp only [go_sem, seval]
def paysOf (a b : TxD) : Bool := twice a.tip b.tip && (twice a.cap b.cap && twice a.bcap b.bcap)
theorem c_ref14_Pays (a b : TxD) (ha : a.ok) (hb : b.ok) : Contract Try.prog 41 [a.av, b.av] (.bool (paysOf a b)) := by
  have h1 := c_ref14_twice b.tip a.tip hb.tip ha.tip
  have h2 := c_ref14_twice b.cap a.cap hb.cap ha.cap
  have h3 := c_ref14_twice b.bcap a.bcap hb.bcap ha.bcap
  unfold u at h1 h2 h3
  unfold paysOf
  refine contract_of (C := cf 24 [2, 3, 4] (fun _ => [])) (cf_ok _ _ _) (fn := Try.f41) Try.func41 (by kernel_rfl) rfl (by kernel_rfl) (by simp [cf]) (plain2 a.plain b.plain) (by decide) (noCell (by kernel_rfl)) ?_
  simp only [go_sem, seval, TxD.av, TxD.cells, ints, strs]
  refine ex_call (by exact h1) ?_
  cases twice a.tip b.tip
  · simp only [go_sem, seval]
    refine finOne ?_ (fun _ e => by cases e)
    show resOf _ _ [.tmp 4] = _
    simp only [go_sem, seval]
  · simp only [go_sem, seval]
    refine ex_call (by exact h2) ?_
    cases twice a.cap b.cap
    · simp only [go_sem, seval]
      refine finOne ?_ (fun _ e => by cases e)
      show resOf _ _ [.tmp 4] = _
      simp only [go_sem, seval]
    · simp only [go_sem, seval]
      refine ex_call (by exact h3) ?_
      simp only [go_sem, seval]
      refine finOne ?_ (fun _ e => by cases e)
      show resOf _ _ [.tmp 4] = _
      simp only [go_sem, seval]
theorem c_ref14_Better (a b : TxD) (ha : a.ok) (hb : b.ok) (va : validTx a = true) (vb : validTx b = true) : Contract Try.prog 42 [a.av, b.av] (.bool (betterOf a b)) := by
  have m1 := c_ref1_Cmp b.bcap a.bcap hb.bcap ha.bcap
  have m2 := c_ref1_Cmp b.cap a.cap hb.cap ha.cap
  have m3 := c_ref1_Cmp b.tip a.tip hb.tip ha.tip
  have hba := c_ref7_Bytes a ha va
  have hbb := c_ref7_Bytes b hb vb
  unfold u at m1 m2 m3
  unfold TxD.av TxD.cells ints strs at hba hbb
  unfold betterOf
  refine contract_of (C := cf 38 [2, 3, 4, 5, 12, 19] (fun _ => [])) (cf_ok _ _ _) (fn := Try.f42) Try.func42 (by kernel_rfl) rfl (by kernel_rfl) (by simp [cf]) (plain2 a.plain b.plain) (by decide) (noCell (by kernel_rfl)) ?_
  simp only [go_sem, seval, TxD.av, TxD.cells, ints, strs]
  refine ex_call (by exact m1) ?_
  rcases Nat.lt_trichotomy a.bcap b.bcap with h1 | h1 | h1
  · rw [cmpOf_gt h1, if_pos (show a.bcap ≠ b.bcap by omega), decide_eq_true h1]
    simp only [go_sem, seval]
    refine ex_draw [] [] (.quiet 0 (.quiet 1 (.quiet 2 (.quiet 3 (.quiet 4 (.quiet 5 (.quiet 6 (.quiet 8 (.one 7 (.one 9 (.quiet 10 (.quiet 11 (.quiet 12 (.quiet 13 (.fin))))))))))))))) (by kernel_rfl) ?_
    simp only [go_sem, seval]
    refine finOne ?_ (fun _ e => by cases e)
    show resOf _ _ [.tmp 4] = _
    simp only [go_sem, seval]
  case' inr.inr =>
    rw [cmpOf_lt h1, if_pos (show a.bcap ≠ b.bcap by omega), decide_eq_false (show ¬ a.bcap < b.bcap by omega)]
    simp only [go_sem, seval]
    refine ex_draw [] [] (.quiet 0 (.quiet 1 (.quiet 2 (.quiet 3 (.quiet 4 (.quiet 5 (.quiet 6 (.quiet 8 (.one 7 (.one 9 (.quiet 10 (.quiet 11 (.quiet 12 (.quiet 13 (.fin))))))))))))))) (by kernel_rfl) ?_
    simp only [go_sem, seval]
    refine finOne ?_ (fun _ e => by cases e)
    show resOf _ _ [.tmp 4] = _
    simp only [go_sem, seval]
  rw [if_neg (show ¬ a.bcap ≠ b.bcap by omega), h1, cmpOf_eq]
  simp only [go_sem, seval]
  refine ex_call (by exact m2) ?_
  rcases Nat.lt_trichotomy a.cap b.cap with h2 | h2 | h2
  · rw [cmpOf_gt h2, if_pos (show a.cap ≠ b.cap by omega), decide_eq_true h2]
    simp only [go_sem, seval]
    refine ex_draw [] [] (.quiet 0 (.quiet 1 (.quiet 2 (.quiet 3 (.quiet 4 (.quiet 5 (.quiet 6 (.quiet 8 (.one 7 (.one 9 (.quiet 10 (.quiet 11 (.quiet 12 (.quiet 13 (.fin))))))))))))))) (by kernel_rfl) ?_
    simp only [go_sem, seval]
    refine finOne ?_ (fun _ e => by cases e)
    show resOf _ _ [.tmp 4] = _
    simp only [go_sem, seval]
  case' inr.inr =>
    rw [cmpOf_lt h2, if_pos (show a.cap ≠ b.cap by omega), decide_eq_false (show ¬ a.cap < b.cap by omega)]
    simp only [go_sem, seval]
    refine ex_draw [] [] (.quiet 0 (.quiet 1 (.quiet 2 (.quiet 3 (.quiet 4 (.quiet 5 (.quiet 6 (.quiet 8 (.one 7 (.one 9 (.quiet 10 (.quiet 11 (.quiet 12 (.quiet 13 (.fin))))))))))))))) (by kernel_rfl) ?_
    simp only [go_sem, seval]
    refine finOne ?_ (fun _ e => by cases e)
    show resOf _ _ [.tmp 4] = _
    simp only [go_sem, seval]
  rw [if_neg (show ¬ a.cap ≠ b.cap by omega), h2, cmpOf_eq]
  simp only [go_sem, seval]
  refine ex_call (by exact m3) ?_
  rcases Nat.lt_trichotomy a.tip b.tip with h3 | h3 | h3
  · rw [cmpOf_gt h3, if_pos (show a.tip ≠ b.tip by omega), decide_eq_true h3]
    simp only [go_sem, seval]
    refine ex_draw [] [] (.quiet 0 (.quiet 1 (.quiet 2 (.quiet 3 (.quiet 4 (.quiet 5 (.quiet 6 (.quiet 8 (.one 7 (.one 9 (.quiet 10 (.quiet 11 (.quiet 12 (.quiet 13 (.fin))))))))))))))) (by kernel_rfl) ?_
    simp only [go_sem, seval]
    refine finOne ?_ (fun _ e => by cases e)
    show resOf _ _ [.tmp 4] = _
    simp only [go_sem, seval]
  case' inr.inr =>
    rw [cmpOf_lt h3, if_pos (show a.tip ≠ b.tip by omega), decide_eq_false (show ¬ a.tip < b.tip by omega)]
    simp only [go_sem, seval]
    refine ex_draw [] [] (.quiet 0 (.quiet 1 (.quiet 2 (.quiet 3 (.quiet 4 (.quiet 5 (.quiet 6 (.quiet 8 (.one 7 (.one 9 (.quiet 10 (.quiet 11 (.quiet 12 (.quiet 13 (.fin))))))))))))))) (by kernel_rfl) ?_
    simp only [go_sem, seval]
    refine finOne ?_ (fun _ e => by cases e)
    show resOf _ _ [.tmp 4] = _
    simp only [go_sem, seval]
  rw [if_neg (show ¬ a.tip ≠ b.tip by omega), h3, cmpOf_eq]
  rw [h1, h2, h3] at hba
  simp only [go_sem, seval]
  refine ex_draw [] [] (.quiet 0 (.quiet 1 (.quiet 2 (.quiet 3 (.quiet 4 (.quiet 5 (.quiet 6 (.quiet 8 (.one 7 (.one 9 (.quiet 10 (.quiet 11 (.quiet 12 (.quiet 13 (.fin))))))))))))))) (by kernel_rfl) ?_
  simp only [go_sem, seval]
  refine ex_call (by exact hbb) ?_
  simp only [go_sem, seval]
  refine ex_call (by exact hba) ?_
  simp only [go_sem, seval, gtr_less]
  refine finOne ?_ (fun _ e => by cases e)
  show resOf _ _ [.tmp 4] = _
  simp only [go_sem, seval]
end Go.Proofs.Ytnamkghgehfphaa.VA
end
section
/- Transactions among the data that a law is asked with. -/
namespace Go.Proofs.Ytnamkghgehfphaa.VA
set_option linter.unusedVariables false
set_option linter.unusedSimpArgs false

theorem wf_i64 {n : Int} (h : (Lit.int .i64 n).wf = true) : -9223372036854775808 ≤ n ∧ n ≤ 9223372036854775807 := by
  simp only [Lit.wf, IntKind.min, IntKind.max, IntKind.signed, IntKind.bits, Bool.and_eq_true, decide_eq_true_eq, if_true, Bool.false_eq_true, if_false] at h
  omega
theorem wf_u64 {n : Int} (h : (Lit.int .u64 n).wf = true) : 0 ≤ n ∧ n < 18446744073709551616 := by
  simp only [Lit.wf, IntKind.min, IntKind.max, IntKind.signed, IntKind.bits, Bool.and_eq_true, decide_eq_true_eq, if_true, Bool.false_eq_true, if_false] at h
  omega
theorem ty_u {x : AV} (h : Ty ti 26 x) : ∃ n : Nat, x = u n ∧ n < U := by
  obtain ⟨xs, rfl, hn, hall⟩ := ty_arr (n := 4) (e := 24) (esz := 1) (by rw [ti26]) h
  match xs, hn with
  | [x0, x1, x2, x3], _ =>
    obtain ⟨a, rfl, ha⟩ := ty_int (k := .u64) (by rw [ti24]) (hall x0 (by simp))
    obtain ⟨b, rfl, hb⟩ := ty_int (k := .u64) (by rw [ti24]) (hall x1 (by simp))
    obtain ⟨c, rfl, hc⟩ := ty_int (k := .u64) (by rw [ti24]) (hall x2 (by simp))
    obtain ⟨d, rfl, hd⟩ := ty_int (k := .u64) (by rw [ti24]) (hall x3 (by simp))
    have ha := wf_u64 ha
    have hb := wf_u64 hb
    have hc := wf_u64 hc
    have hd := wf_u64 hd
    obtain ⟨a, rfl⟩ := Int.eq_ofNat_of_zero_le ha.1
    obtain ⟨b, rfl⟩ := Int.eq_ofNat_of_zero_le hb.1
    obtain ⟨c, rfl⟩ := Int.eq_ofNat_of_zero_le hc.1
    obtain ⟨d, rfl⟩ := Int.eq_ofNat_of_zero_le hd.1
    refine ⟨a + 18446744073709551616 * b + 340282366920938463463374607431768211456 * c + 6277101735386680763835789423207666416102355444464034512896 * d, ?_, ?_⟩
    · rw [u_eq (a := a) (b := b) (c := c) (d := d) (by omega) (by omega) (by omega) (by omega) rfl]
      rfl
    · unfold U; omega
theorem ty_tx {x : AV} (h : Ty ti 38 x) : ∃ t : TxD, x = t.av ∧ t.ok := by
  obtain ⟨xs, rfl, hn, hall⟩ := ty_struct (fs := [(0, 1, 3), (1, 1, 3), (2, 4, 26), (6, 4, 26), (10, 4, 26), (14, 4, 26), (18, 1, 3), (19, 1, 35), (20, 1, 36)]) (by rw [ti38]) h
  match xs, hn with
  | [x0, x1, x2, x3, x4, x5, x6, x7, x8], _ =>
    obtain ⟨f, rfl, h0⟩ := ty_int (k := .i64) (by rw [ti3]) (hall 0 _ _ _ x0 rfl rfl)
    obtain ⟨n, rfl, h1⟩ := ty_int (k := .i64) (by rw [ti3]) (hall 1 _ _ _ x1 rfl rfl)
    obtain ⟨p, rfl, h2⟩ := ty_u (hall 2 _ _ _ x2 rfl rfl)
    obtain ⟨c, rfl, h3⟩ := ty_u (hall 3 _ _ _ x3 rfl rfl)
    obtain ⟨b, rfl, h4⟩ := ty_u (hall 4 _ _ _ x4 rfl rfl)
    obtain ⟨v, rfl, h5⟩ := ty_u (hall 5 _ _ _ x5 rfl rfl)
    obtain ⟨g, rfl, h6⟩ := ty_int (k := .i64) (by rw [ti3]) (hall 6 _ _ _ x6 rfl rfl)
    obtain ⟨hs, rfl, a7, b7⟩ := ty_ints (e := 24) (eb := 8) (k := .u64) (by rw [ti35]) (by rw [ti24]) (hall 7 _ _ _ x7 rfl rfl)
    obtain ⟨bs, rfl, a8, b8⟩ := ty_strs (e := 9) (eb := 16) (by rw [ti36]) (by rw [ti9]) (hall 8 _ _ _ x8 rfl rfl)
    exact ⟨⟨f, n, p, c, b, v, g, hs, bs⟩, rfl, wf_i64 h0, wf_i64 h1, wf_i64 h6, h2, h3, h4, h5, a7, a8, b8⟩
end Go.Proofs.Ytnamkghgehfphaa.VA
end
section
/- Transactions: comparisons. -/
namespace Go.Proofs.Ytnamkghgehfphaa.VA
set_option maxRecDepth 10000
set_option linter.unusedSimpArgs false
set_option linter.unusedVariables false
set_option maxHeartbeats 8000000

theorem take_eq_succ {α : Type} {a b : List α} {i : Nat} {x : α} (h : a.take i = b.take i) (ha : a[i]? = some x) (hb : b[i]? = some x) : a.take (i + 1) = b.take (i + 1) := by
  rw [List.take_add_one, List.take_add_one, h, ha, hb]
theorem eq_of_takes {α : Type} {a b : List α} (hl : a.length = b.length) {i : Nat} (hi : i = a.length) (h : a.take i = b.take i) : a = b := by
  subst hi
  rw [List.take_length, hl, List.take_length] at h
  exact h
theorem ne_of_get {α : Type} {a b : List α} {i : Nat} {x y : α} (ha : a[i]? = some x) (hb : b[i]? = some y) (h : x ≠ y) : a ≠ b := by
  rintro rfl
  rw [ha] at hb
  cases hb
  exact h rfl

theorem c_EqMarks (a b : List Int) (ha : a.length * 8 ≤ reachBytes) (hb : b.length * 8 ≤ reachBytes) : Contract Try.prog 77 [ints .u64 a, ints .u64 b] (.bool (decide (a = b))) := by
  unfold reachBytes at ha hb
  refine contract_of (C := cf 26 [0, 1, 4, 5, 10, 14, 25] (fun _ => [])) (cf_ok _ _ _) (fn := Try.f77) Try.func77 (by kernel_rfl) rfl (by kernel_rfl) (by simp [cf]) (plain2 (ints_plain _ a) (ints_plain _ b)) (by decide) (noCell (by kernel_rfl)) ?_
  simp only [go_sem, seval, ints, List.length_map]
  refine ex_br (fun h => ?_) (fun h => ?_)
  · have hne : a ≠ b := by
      rintro rfl
      simp at h
    rw [decide_eq_false hne]
    simp only [go_sem, seval]
    refine finOne ?_ (fun _ e => by cases e)
    show resOf _ _ [.tmp 4] = _
    simp only [go_sem, seval]
  · have hl : a.length = b.length := by simp at h; omega
    simp only [go_sem, seval]
    refine ex_iter [0, 1, 5] (fun i : Nat => ⟨[(0, .sl false 1 (a.map (AV.int .u64))), (1, .sl false 1 (b.map (AV.int .u64))), (5, .int .i64 i)], []⟩) (fun i => i ≤ a.length ∧ a.take i = b.take i) (fun i => a.length - i) 0 ?_ ?_ ?_
    · simp only [ASt.keep, consIf, keepL, keepV, AV.isBot, List.contains_cons, List.contains_nil, Nat.reduceBEq, Bool.or_false, Bool.false_or, Bool.or_true, Bool.true_or, beq_self_eq_true, Bool.false_eq_true, ↓reduceIte, if_false, if_true]
      rfl
    · exact ⟨Nat.zero_le _, by simp⟩
    · rintro n i ⟨hi, ht⟩ next
      simp only [go_sem, seval, List.length_map]
      refine ex_br (fun h => ?_) (fun h => ?_)
      · have hlt : i < a.length := by simpa using h
        obtain ⟨x, ex⟩ : ∃ x, a[i]? = some x := ⟨_, List.getElem?_eq_getElem hlt⟩
        obtain ⟨y, ey⟩ : ∃ y, b[i]? = some y := ⟨_, List.getElem?_eq_getElem (by omega)⟩
        simp only [go_sem, seval]
        refine ex_draw [] [] (.quiet 0 (.quiet 1 (.quiet 2 (.quiet 3 (.quiet 4 (.quiet 5 (.quiet 6 (.quiet 7 (.quiet 8 (.fin)))))))))) (by kernel_rfl) ?_
        simp only [go_sem, seval, List.length_map, List.getElem?_map, ex, ey, Int.toNat_natCast]
        repeat with_reducible refine And.intro (by first | omega | (simp only [List.length_cons, List.length_append, List.length_nil, List.length_map, List.length_take, List.length_drop, List.length_set]; omega)) ?_
        refine ex_br (fun hne => ?_) (fun hne => ?_)
        · rw [decide_eq_false (ne_of_get ex ey (by simpa using hne))]
          simp only [go_sem, seval]
          refine finOne ?_ (fun _ e => by cases e)
          show resOf _ _ [.tmp 4] = _
          simp only [go_sem, seval]
        · have hxy : x = y := by simpa using hne
          subst hxy
          simp only [go_sem, seval]
          refine next (i + 1) _ ⟨by omega, take_eq_succ ht ex ey⟩ (by omega) ?_
          rw [← wi64_nat i (by omega)]
          simp only [ASt.keep, consIf, keepL, keepV, AV.isBot, List.contains_cons, List.contains_nil, Nat.reduceBEq, Bool.or_false, Bool.false_or, Bool.or_true, Bool.true_or, beq_self_eq_true, Bool.false_eq_true, ↓reduceIte, if_false, if_true]
      · have hge : i = a.length := by simp at h; omega
        rw [decide_eq_true (eq_of_takes hl hge ht)]
        simp only [go_sem, seval]
        refine finOne ?_ (fun _ e => by cases e)
        show resOf _ _ [.tmp 4] = _
        simp only [go_sem, seval]
theorem c_EqStrings (a b : List (List UInt8)) (ha : a.length * 16 ≤ reachBytes) (hb : b.length * 16 ≤ reachBytes) : Contract Try.prog 78 [strs a, strs b] (.bool (decide (a = b))) := by
  unfold reachBytes at ha hb
  refine contract_of (C := cf 26 [0, 1, 4, 5, 10, 14, 25] (fun _ => [])) (cf_ok _ _ _) (fn := Try.f78) Try.func78 (by kernel_rfl) rfl (by kernel_rfl) (by simp [cf]) (plain2 (strs_plain a) (strs_plain b)) (by decide) (noCell (by kernel_rfl)) ?_
  simp only [go_sem, seval, strs, List.length_map]
  refine ex_br (fun h => ?_) (fun h => ?_)
  · have hne : a ≠ b := by
      rintro rfl
      simp at h
    rw [decide_eq_false hne]
    simp only [go_sem, seval]
    refine finOne ?_ (fun _ e => by cases e)
    show resOf _ _ [.tmp 4] = _
    simp only [go_sem, seval]
  · have hl : a.length = b.length := by simp at h; omega
    simp only [go_sem, seval]
    refine ex_iter [0, 1, 5] (fun i : Nat => ⟨[(0, .sl false 1 (a.map AV.str)), (1, .sl false 1 (b.map AV.str)), (5, .int .i64 i)], []⟩) (fun i => i ≤ a.length ∧ a.take i = b.take i) (fun i => a.length - i) 0 ?_ ?_ ?_
    · simp only [ASt.keep, consIf, keepL, keepV, AV.isBot, List.contains_cons, List.contains_nil, Nat.reduceBEq, Bool.or_false, Bool.false_or, Bool.or_true, Bool.true_or, beq_self_eq_true, Bool.false_eq_true, ↓reduceIte, if_false, if_true]
      rfl
    · exact ⟨Nat.zero_le _, by simp⟩
    · rintro n i ⟨hi, ht⟩ next
      simp only [go_sem, seval, List.length_map]
      refine ex_br (fun h => ?_) (fun h => ?_)
      · have hlt : i < a.length := by simpa using h
        obtain ⟨x, ex⟩ : ∃ x, a[i]? = some x := ⟨_, List.getElem?_eq_getElem hlt⟩
        obtain ⟨y, ey⟩ : ∃ y, b[i]? = some y := ⟨_, List.getElem?_eq_getElem (by omega)⟩
        simp only [go_sem, seval]
        refine ex_draw [] [] (.quiet 0 (.quiet 1 (.quiet 2 (.quiet 3 (.quiet 4 (.quiet 5 (.quiet 6 (.quiet 7 (.quiet 8 (.fin)))))))))) (by kernel_rfl) ?_
        simp only [go_sem, seval, List.length_map, List.getElem?_map, ex, ey, Int.toNat_natCast]
        repeat with_reducible refine And.intro (by first | omega | (simp only [List.length_cons, List.length_append, List.length_nil, List.length_map, List.length_take, List.length_drop, List.length_set]; omega)) ?_
        refine ex_br (fun hne => ?_) (fun hne => ?_)
        · rw [decide_eq_false (ne_of_get ex ey (by simpa using hne))]
          simp only [go_sem, seval]
          refine finOne ?_ (fun _ e => by cases e)
          show resOf _ _ [.tmp 4] = _
          simp only [go_sem, seval]
        · have hxy : x = y := by simpa using hne
          subst hxy
          simp only [go_sem, seval]
          refine next (i + 1) _ ⟨by omega, take_eq_succ ht ex ey⟩ (by omega) ?_
          rw [← wi64_nat i (by omega)]
          simp only [ASt.keep, consIf, keepL, keepV, AV.isBot, List.contains_cons, List.contains_nil, Nat.reduceBEq, Bool.or_false, Bool.false_or, Bool.or_true, Bool.true_or, beq_self_eq_true, Bool.false_eq_true, ↓reduceIte, if_false, if_true]
      · have hge : i = a.length := by simp at h; omega
        rw [decide_eq_true (eq_of_takes hl hge ht)]
        simp only [go_sem, seval]
        refine finOne ?_ (fun _ e => by cases e)
        show resOf _ _ [.tmp 4] = _
        simp only [go_sem, seval]

/-! Two transactions. -/
def eqTx (a b : TxD) : Bool := (a.frm == b.frm) && ((a.nonce == b.nonce) && (decide (a.tip = b.tip) && (decide (a.cap = b.cap) && (decide (a.bcap = b.bcap) && (decide (a.value = b.value) && ((a.gas == b.gas) && (decide (a.hashes = b.hashes) && decide (a.blobs = b.blobs))))))))
theorem eqTx_iff (a b : TxD) : eqTx a b = true ↔ a = b := by
  cases a; cases b
  simp only [eqTx, Bool.and_eq_true, beq_iff_eq, decide_eq_true_eq, TxD.mk.injEq]
instance : DecidableEq TxD := fun a b => decidable_of_iff (eqTx a b = true) (eqTx_iff a b)
theorem eqTx_dec (a b : TxD) : eqTx a b = decide (a = b) := by
  rw [Bool.eq_iff_iff, eqTx_iff]; simp
theorem u_inj {n m : Nat} (hn : n < U) (hm : m < U) (h : u n = u m) : n = m := by
  obtain ⟨a, b, c, d, h0, h1, h2, h3, rfl⟩ := u_limbs n hn
  obtain ⟨a', b', c', d', k0, k1, k2, k3, rfl⟩ := u_limbs m hm
  rw [u_eq h0 h1 h2 h3 rfl, u_eq k0 k1 k2 k3 rfl] at h
  injection h with h
  simp only [List.cons.injEq, AV.int.injEq, true_and, and_true] at h
  omega
theorem eqU (n m : Nat) (hn : n < U) (hm : m < U) : ((lim n 0 == lim m 0) && ((lim n 1 == lim m 1) && ((lim n 2 == lim m 2) && (lim n 3 == lim m 3)))) = decide (n = m) := by
  rw [Bool.eq_iff_iff]
  simp only [Bool.and_eq_true, beq_iff_eq, decide_eq_true_eq]
  constructor
  · rintro ⟨e0, e1, e2, e3⟩
    refine u_inj hn hm ?_
    unfold u
    rw [e0, e1, e2, e3]
  · rintro rfl
    exact ⟨rfl, rfl, rfl, rfl⟩
theorem c_EqTx (a b : TxD) (ha : a.ok) (hb : b.ok) : Contract Try.prog 23 [a.av, b.av] (.bool (decide (a = b))) := by
  rw [← eqTx_dec]
  have e1 := eqU a.tip b.tip ha.tip hb.tip
  have e2 := eqU a.cap b.cap ha.cap hb.cap
  have e3 := eqU a.bcap b.bcap ha.bcap hb.bcap
  have e4 := eqU a.value b.value ha.value hb.value
  refine contract_of (C := cf 66 [2, 3, 4] (fun _ => [])) (cf_ok _ _ _) (fn := Try.f23) Try.func23 (by kernel_rfl) rfl (by kernel_rfl) (by simp [cf]) (plain2 a.plain b.plain) (by decide) (noCell (by kernel_rfl)) ?_
  simp only [go_sem, seval, TxD.av, TxD.cells, ints, strs]
  cases h1 : (a.frm == b.frm)
  · have e : eqTx a b = false := by unfold eqTx; rw [h1]; rfl
    simp only [go_sem, seval, e]
    refine finOne ?_ (fun _ e => by cases e)
    show resOf _ _ [.tmp 4] = _
    simp only [go_sem, seval]
  simp only [go_sem, seval]
  cases h2 : (a.nonce == b.nonce)
  · have e : eqTx a b = false := by unfold eqTx; rw [h1, h2]; rfl
    simp only [go_sem, seval, e]
    refine finOne ?_ (fun _ e => by cases e)
    show resOf _ _ [.tmp 4] = _
    simp only [go_sem, seval]
  simp only [go_sem, seval, e1]
  cases h3 : decide (a.tip = b.tip)
  · have e : eqTx a b = false := by unfold eqTx; rw [h1, h2, h3]; rfl
    simp only [go_sem, seval, e]
    refine finOne ?_ (fun _ e => by cases e)
    show resOf _ _ [.tmp 4] = _
    simp only [go_sem, seval]
  simp only [go_sem, seval, e2]
  cases h4 : decide (a.cap = b.cap)
  · have e : eqTx a b = false := by unfold eqTx; rw [h1, h2, h3, h4]; rfl
    simp only [go_sem, seval, e]
    refine finOne ?_ (fun _ e => by cases e)
    show resOf _ _ [.tmp 4] = _
    simp only [go_sem, seval]
  simp only [go_sem, seval, e3]
  cases h5 : decide (a.bcap = b.bcap)
  · have e : eqTx a b = false := by unfold eqTx; rw [h1, h2, h3, h4, h5]; rfl
    simp only [go_sem, seval, e]
    refine finOne ?_ (fun _ e => by cases e)
    show resOf _ _ [.tmp 4] = _
    simp only [go_sem, seval]
  simp only [go_sem, seval, e4]
  cases h6 : decide (a.value = b.value)
  · have e : eqTx a b = false := by unfold eqTx; rw [h1, h2, h3, h4, h5, h6]; rfl
    simp only [go_sem, seval, e]
    refine finOne ?_ (fun _ e => by cases e)
    show resOf _ _ [.tmp 4] = _
    simp only [go_sem, seval]
  simp only [go_sem, seval]
  cases h7 : (a.gas == b.gas)
  · have e : eqTx a b = false := by unfold eqTx; rw [h1, h2, h3, h4, h5, h6, h7]; rfl
    simp only [go_sem, seval, e]
    refine finOne ?_ (fun _ e => by cases e)
    show resOf _ _ [.tmp 4] = _
    simp only [go_sem, seval]
  simp only [go_sem, seval]
  refine ex_call (by exact c_EqMarks a.hashes b.hashes ha.hashes hb.hashes) ?_
  cases h8 : decide (a.hashes = b.hashes)
  · have e : eqTx a b = false := by unfold eqTx; rw [h1, h2, h3, h4, h5, h6, h7, h8]; rfl
    simp only [go_sem, seval, e]
    refine finOne ?_ (fun _ e => by cases e)
    show resOf _ _ [.tmp 4] = _
    simp only [go_sem, seval]
  simp only [go_sem, seval]
  refine ex_call (by exact c_EqStrings a.blobs b.blobs ha.blobs hb.blobs) ?_
  have e : eqTx a b = decide (a.blobs = b.blobs) := by unfold eqTx; rw [h1, h2, h3, h4, h5, h6, h7, h8]; rfl
  simp only [go_sem, seval, e]
  refine finOne ?_ (fun _ e => by cases e)
  show resOf _ _ [.tmp 4] = _
  simp only [go_sem, seval]
end Go.Proofs.Ytnamkghgehfphaa.VA
end
section
/- Questions of the laws on bumps. -/
namespace Go.Proofs.Ytnamkghgehfphaa.VA
set_option maxRecDepth 10000
set_option linter.unusedSimpArgs false
set_option linter.unusedVariables false
set_option maxHeartbeats 16000000

structure Ask15 where
  a : TxD
  b : TxD
abbrev pairC (a b : TxD) : AV := .agg [.int .i64 a.frm, .int .i64 a.nonce, .int .u64 (lim a.tip 0), .int .u64 (lim a.tip 1), .int .u64 (lim a.tip 2), .int .u64 (lim a.tip 3), .int .u64 (lim a.cap 0), .int .u64 (lim a.cap 1), .int .u64 (lim a.cap 2), .int .u64 (lim a.cap 3), .int .u64 (lim a.bcap 0), .int .u64 (lim a.bcap 1), .int .u64 (lim a.bcap 2), .int .u64 (lim a.bcap 3), .int .u64 (lim a.value 0), .int .u64 (lim a.value 1), .int .u64 (lim a.value 2), .int .u64 (lim a.value 3), .int .i64 a.gas, .sl false 1 (a.hashes.map (AV.int .u64)), .sl false 1 (a.blobs.map AV.str), .int .i64 b.frm, .int .i64 b.nonce, .int .u64 (lim b.tip 0), .int .u64 (lim b.tip 1), .int .u64 (lim b.tip 2), .int .u64 (lim b.tip 3), .int .u64 (lim b.cap 0), .int .u64 (lim b.cap 1), .int .u64 (lim b.cap 2), .int .u64 (lim b.cap 3), .int .u64 (lim b.bcap 0), .int .u64 (lim b.bcap 1), .int .u64 (lim b.bcap 2), .int .u64 (lim b.bcap 3), .int .u64 (lim b.value 0), .int .u64 (lim b.value 1), .int .u64 (lim b.value 2), .int .u64 (lim b.value 3), .int .i64 b.gas, .sl false 1 (b.hashes.map (AV.int .u64)), .sl false 1 (b.blobs.map AV.str)]
abbrev txE (a : TxD) : AV := .agg [.int .i64 a.frm, .int .i64 a.nonce, .int .u64 (lim a.tip 0), .int .u64 (lim a.tip 1), .int .u64 (lim a.tip 2), .int .u64 (lim a.tip 3), .int .u64 (lim a.cap 0), .int .u64 (lim a.cap 1), .int .u64 (lim a.cap 2), .int .u64 (lim a.cap 3), .int .u64 (lim a.bcap 0), .int .u64 (lim a.bcap 1), .int .u64 (lim a.bcap 2), .int .u64 (lim a.bcap 3), .int .u64 (lim a.value 0), .int .u64 (lim a.value 1), .int .u64 (lim a.value 2), .int .u64 (lim a.value 3), .int .i64 a.gas, .sl false 1 (a.hashes.map (AV.int .u64)), .sl false 1 (a.blobs.map AV.str)]
def Ask15.av (q : Ask15) : AV := pairC q.a q.b
structure Ask15.ok (q : Ask15) : Prop where
  a : q.a.ok
  b : q.b.ok
def asks15 (l : List Ask15) : AV := .sl false 42 (l.map Ask15.av)
theorem asks15_plain (l : List Ask15) : Plain (asks15 l) := .sl 42 _ fun c hc => by
  obtain ⟨s, _, rfl⟩ := List.mem_map.1 hc
  exact pairAv_plain s.a s.b
theorem ty_ask15 {x : AV} (h : Ty ti 64 x) : ∃ q : Ask15, x = q.av ∧ q.ok := by
  obtain ⟨xs, rfl, hn, hall⟩ := ty_struct (fs := [(0, 21, 38), (21, 21, 38)]) (by rw [ti64]) h
  match xs, hn with
  | [x0, x1], _ =>
    obtain ⟨a, rfl, ha⟩ := ty_tx (hall 0 _ _ _ x0 rfl rfl)
    obtain ⟨b, rfl, hb⟩ := ty_tx (hall 1 _ _ _ x1 rfl rfl)
    exact ⟨⟨a, b⟩, rfl, ha, hb⟩
theorem ty_asks15 {x : AV} (h : Ty ti 62 x) : ∃ l : List Ask15, x = asks15 l ∧ l.length ≤ 1099511627776 ∧ ∀ a ∈ l, a.ok := by
  obtain ⟨es, rfl, hs, hall⟩ := ty_slice (e := 64) (esz := 42) (eb := 400) (by rw [ti62]) h
  obtain ⟨l, rfl, hl⟩ := ty_map (f := Ask15.av) (fun y hy => ty_ask15 hy) es hall
  exact ⟨l, rfl, by rw [List.length_map] at hs; unfold reachBytes at hs; omega, hl⟩
theorem r_heavy (a b : TxD) (ha : a.ok) (hb : b.ok) : Contract Try.prog 36 [pairC a b] (.bool (decide (weightOf a + weightOf b > 2000))) := c_law15_heavy a b ha hb
theorem r_May (a b : TxD) (ha : a.ok) (hb : b.ok) : Contract Try.prog 38 [txE a, txE b] (.int .i64 (mayOf a b)) := c_May a b ha hb
theorem r_Better (a b : TxD) (ha : a.ok) (hb : b.ok) : Contract Try.prog 39 [txE a, txE b] (.tup [.bool (pairOf a b && betterOf a b), .int .i64 (if pairOf a b = true then 0 else 1)]) := c_bump_Better a b ha hb
theorem r_Pair (a b : TxD) (ha : a.ok) (hb : b.ok) : Contract Try.prog 40 [txE a, txE b] (.bool (pairOf a b)) := c_Pair a b ha hb
theorem r_Pays (a b : TxD) (ha : a.ok) (hb : b.ok) : Contract Try.prog 41 [txE a, txE b] (.bool (paysOf a b)) := c_ref14_Pays a b ha hb
theorem r_refBetter (a b : TxD) (ha : a.ok) (hb : b.ok) (va : validTx a = true) (vb : validTx b = true) : Contract Try.prog 42 [txE a, txE b] (.bool (betterOf a b)) := c_ref14_Better a b ha hb va vb
theorem r_Copy (t : TxD) (h : t.ok) : Contract Try.prog 18 [txE t] (txE t) := c_CopyTx t h
theorem r_Eq (a b : TxD) (ha : a.ok) (hb : b.ok) : Contract Try.prog 23 [txE a, txE b] (.bool (decide (a = b))) := c_EqTx a b ha hb
theorem may_pays {a b : TxD} (h : pairOf a b = true) : mayOf a b = if paysOf a b = true then 0 else 11 := by
  unfold mayOf paysOf
  rw [if_pos h]
  cases twice a.tip b.tip <;> cases twice a.cap b.cap <;> cases twice a.bcap b.bcap <;> rfl
end Go.Proofs.Ytnamkghgehfphaa.VA
end
section
/- The page's difference. -/
namespace Go.Proofs.Ytnamkghgehfphaa.VA
set_option maxRecDepth 10000
set_option linter.unusedSimpArgs false
set_option linter.unusedVariables false
set_option maxHeartbeats 8000000

/-- One step of a difference: what is left, what is owed. -/
theorem sb_step (x y c : Nat) (hx : x < 18446744073709551616) (hy : y < 18446744073709551616) (hc : c ≤ 1) : ∃ s k : Nat, s < 18446744073709551616 ∧ k ≤ 1 ∧ s + y + c = x + 18446744073709551616 * k := by
  by_cases h : y + c ≤ x
  · exact ⟨x - y - c, 0, by omega, by omega, by omega⟩
  · exact ⟨x + 18446744073709551616 - y - c, 1, by omega, by omega, by omega⟩
theorem ref_sub {x y c s k : Nat} (hx : x < 18446744073709551616) (hy : y < 18446744073709551616) (hc : c ≤ 1) (hs : s < 18446744073709551616) (hk : k ≤ 1) (h : s + y + c = x + 18446744073709551616 * k) :
    IntKind.u64.wrap (IntKind.u64.wrap ((x : Int) - y) - c) = s ∧
    (bif decide (IntKind.u64.wrap ((x : Int) - y) < (c : Int)) then 1 else bif decide ((x : Int) < y) then (1 : Int) else 0) = k := by
  simp only [IntKind.wrap_u64]
  refine ⟨by omega, ?_⟩
  cases h1 : decide ((((x : Int) - y) % 18446744073709551616) < (c : Int)) <;> cases h2 : decide ((x : Int) < y) <;> simp only [cond_true, cond_false] <;> simp only [decide_eq_true_eq, decide_eq_false_iff_not] at h1 h2 <;> omega
theorem c_ref1_Sub (n m : Nat) (hn : n < U) (hm : m < U) : Contract Try.prog 47 [u n, u m] (.tup [u (if m ≤ n then n - m else 0), .bool (decide (m ≤ n))]) := by
  have hcm := c_ref1_Cmp n m hn hm
  obtain ⟨x0, x1, x2, x3, hx0, hx1, hx2, hx3, en⟩ := u_limbs n hn
  obtain ⟨y0, y1, y2, y3, hy0, hy1, hy2, hy3, em⟩ := u_limbs m hm
  obtain ⟨s0, k0, hs0, hk0, e0⟩ := sb_step x0 y0 0 hx0 hy0 (by omega)
  obtain ⟨s1, k1, hs1, hk1, e1⟩ := sb_step x1 y1 k0 hx1 hy1 hk0
  obtain ⟨s2, k2, hs2, hk2, e2⟩ := sb_step x2 y2 k1 hx2 hy2 hk1
  obtain ⟨s3, k3, hs3, hk3, e3⟩ := sb_step x3 y3 k2 hx3 hy3 hk2
  obtain ⟨r0, q0⟩ := ref_sub hx0 hy0 (by omega) hs0 hk0 e0
  obtain ⟨r1, q1⟩ := ref_sub hx1 hy1 hk0 hs1 hk1 e1
  obtain ⟨r2, q2⟩ := ref_sub hx2 hy2 hk1 hs2 hk2 e2
  obtain ⟨r3, q3⟩ := ref_sub hx3 hy3 hk2 hs3 hk3 e3
  rw [Int.cast_ofNat_Int] at r0 q0
  have hz4 : u 0 = _ := u_small 0 (by decide)
  have un1 := u_eq hx0 hx1 hx2 hx3 en
  have un2 := u_eq hy0 hy1 hy2 hy3 em
  rw [un1, un2] at hcm
  rw [un1, un2]
  refine contract_of (C := cf 46 [2, 3, 4, 5, 6, 7, 8, 9, 10, 11, 15, 18, 34, 40] (fun _ => [])) (cf_ok _ _ _) (fn := Try.f47) Try.func47 (by kernel_rfl) rfl (by kernel_rfl) (by simp [cf]) (plain2 (u4_plain _ _ _ _) (u4_plain _ _ _ _)) (by decide) (cellsOk (by kernel_rfl)) ?_
  simp only [go_sem, ↓reduceIte, Nat.reduceLT, Nat.reduceLeDiff, Nat.reduceAdd, Nat.reduceSub, Nat.reduceMul, Nat.reduceEqDiff, Nat.reduceBEq, Nat.reduceMod, Nat.reduceDiv, Int.reduceToNat, reduceCtorEq, Int.reduceLT, Int.reduceLE, Int.reduceGT, Int.reduceGE, Int.reduceAdd, Int.reduceSub, Int.reduceMul, Int.reduceNeg, Int.reduceEq, Int.reduceNe, Int.reduceBNe, Int.reduceBEq, Int.reduceDiv]
  refine ex_call hcm ?_
  simp only [go_sem, ↓reduceIte, Nat.reduceLT, Nat.reduceLeDiff, Nat.reduceAdd, Nat.reduceSub, Nat.reduceMul, Nat.reduceEqDiff, Nat.reduceBEq, Nat.reduceMod, Nat.reduceDiv, Int.reduceToNat, reduceCtorEq, Int.reduceLT, Int.reduceLE, Int.reduceGT, Int.reduceGE, Int.reduceAdd, Int.reduceSub, Int.reduceMul, Int.reduceNeg, Int.reduceEq, Int.reduceNe, Int.reduceBNe, Int.reduceBEq, Int.reduceDiv, cmp_lt]
  refine ex_br (fun h => ?_) (fun h => ?_)
  · have h := of_decide_eq_true h
    rw [if_neg (by omega), decide_eq_false (by omega), hz4]
    simp only [go_sem, ↓reduceIte, Nat.reduceLT, Nat.reduceLeDiff, Nat.reduceAdd, Nat.reduceSub, Nat.reduceMul, Nat.reduceEqDiff, Nat.reduceBEq, Nat.reduceMod, Nat.reduceDiv, Int.reduceToNat, reduceCtorEq, Int.reduceLT, Int.reduceLE, Int.reduceGT, Int.reduceGE, Int.reduceAdd, Int.reduceSub, Int.reduceMul, Int.reduceNeg, Int.reduceEq, Int.reduceNe, Int.reduceBNe, Int.reduceBEq, Int.reduceDiv]
    refine finTup ?_
    show resOf _ _ [.cell 4 26, .tmp 5] = _
    simp only [go_sem, ↓reduceIte, Nat.reduceLT, Nat.reduceLeDiff, Nat.reduceAdd, Nat.reduceSub, Nat.reduceMul, Nat.reduceEqDiff, Nat.reduceBEq, Nat.reduceMod, Nat.reduceDiv, Int.reduceToNat, reduceCtorEq, Int.reduceLT, Int.reduceLE, Int.reduceGT, Int.reduceGE, Int.reduceAdd, Int.reduceSub, Int.reduceMul, Int.reduceNeg, Int.reduceEq, Int.reduceNe, Int.reduceBNe, Int.reduceBEq, Int.reduceDiv]
    rfl
  have h := of_decide_eq_false h
  simp only [go_sem, ↓reduceIte, Nat.reduceLT, Nat.reduceLeDiff, Nat.reduceAdd, Nat.reduceSub, Nat.reduceMul, Nat.reduceEqDiff, Nat.reduceBEq, Nat.reduceMod, Nat.reduceDiv, Int.reduceToNat, reduceCtorEq, Int.reduceLT, Int.reduceLE, Int.reduceGT, Int.reduceGE, Int.reduceAdd, Int.reduceSub, Int.reduceMul, Int.reduceNeg, Int.reduceEq, Int.reduceNe, Int.reduceBNe, Int.reduceBEq, Int.reduceDiv]
  refine ex_loop [2, 3, 4, 6, 7, 8] 5 ?_
  iterate 4
    simp only [go_sem, ↓reduceIte, Nat.reduceLT, Nat.reduceLeDiff, Nat.reduceAdd, Nat.reduceSub, Nat.reduceMul, Nat.reduceEqDiff, Nat.reduceBEq, Nat.reduceMod, Nat.reduceDiv, Int.reduceToNat, reduceCtorEq, Int.reduceLT, Int.reduceLE, Int.reduceGT, Int.reduceGE, Int.reduceAdd, Int.reduceSub, Int.reduceMul, Int.reduceNeg, Int.reduceEq, Int.reduceNe, Int.reduceBNe, Int.reduceBEq, Int.reduceDiv, ex_round]
    refine ex_draw [] [] (.quiet 0 (.quiet 1 (.quiet 2 (.quiet 3 (.quiet 4 (.quiet 5 (.quiet 6 (.quiet 7 (.fin))))))))) (by kernel_rfl) ?_
    simp only [go_sem, ↓reduceIte, Nat.reduceLT, Nat.reduceLeDiff, Nat.reduceAdd, Nat.reduceSub, Nat.reduceMul, Nat.reduceEqDiff, Nat.reduceBEq, Nat.reduceMod, Nat.reduceDiv, Int.reduceToNat, reduceCtorEq, Int.reduceLT, Int.reduceLE, Int.reduceGT, Int.reduceGE, Int.reduceAdd, Int.reduceSub, Int.reduceMul, Int.reduceNeg, Int.reduceEq, Int.reduceNe, Int.reduceBNe, Int.reduceBEq, Int.reduceDiv, Int.cast_ofNat_Int, wi64]
    refine ex_draw [] [] (.quiet 0 (.quiet 1 (.quiet 2 (.quiet 3 (.quiet 4 (.quiet 5 (.quiet 6 (.fin)))))))) (by kernel_rfl) ?_
    simp only [go_sem, ↓reduceIte, Nat.reduceLT, Nat.reduceLeDiff, Nat.reduceAdd, Nat.reduceSub, Nat.reduceMul, Nat.reduceEqDiff, Nat.reduceBEq, Nat.reduceMod, Nat.reduceDiv, Int.reduceToNat, reduceCtorEq, Int.reduceLT, Int.reduceLE, Int.reduceGT, Int.reduceGE, Int.reduceAdd, Int.reduceSub, Int.reduceMul, Int.reduceNeg, Int.reduceEq, Int.reduceNe, Int.reduceBNe, Int.reduceBEq, Int.reduceDiv, Int.cast_ofNat_Int, wi64]
    refine ex_ifI 10 .u64 1 rfl ?_ ?_ ?_
    iterate 2
      (simp only [go_sem, ↓reduceIte, Nat.reduceLT, Nat.reduceLeDiff, Nat.reduceAdd, Nat.reduceSub, Nat.reduceMul, Nat.reduceEqDiff, Nat.reduceBEq, Nat.reduceMod, Nat.reduceDiv, Int.reduceToNat, reduceCtorEq, Int.reduceLT, Int.reduceLE, Int.reduceGT, Int.reduceGE, Int.reduceAdd, Int.reduceSub, Int.reduceMul, Int.reduceNeg, Int.reduceEq, Int.reduceNe, Int.reduceBNe, Int.reduceBEq, Int.reduceDiv])
    simp only [go_sem, ↓reduceIte, Nat.reduceLT, Nat.reduceLeDiff, Nat.reduceAdd, Nat.reduceSub, Nat.reduceMul, Nat.reduceEqDiff, Nat.reduceBEq, Nat.reduceMod, Nat.reduceDiv, Int.reduceToNat, reduceCtorEq, Int.reduceLT, Int.reduceLE, Int.reduceGT, Int.reduceGE, Int.reduceAdd, Int.reduceSub, Int.reduceMul, Int.reduceNeg, Int.reduceEq, Int.reduceNe, Int.reduceBNe, Int.reduceBEq, Int.reduceDiv, Int.cast_ofNat_Int, wi64]
    refine ex_ifI 10 .u64 1 rfl ?_ ?_ ?_
    iterate 2
      (simp only [go_sem, ↓reduceIte, Nat.reduceLT, Nat.reduceLeDiff, Nat.reduceAdd, Nat.reduceSub, Nat.reduceMul, Nat.reduceEqDiff, Nat.reduceBEq, Nat.reduceMod, Nat.reduceDiv, Int.reduceToNat, reduceCtorEq, Int.reduceLT, Int.reduceLE, Int.reduceGT, Int.reduceGE, Int.reduceAdd, Int.reduceSub, Int.reduceMul, Int.reduceNeg, Int.reduceEq, Int.reduceNe, Int.reduceBNe, Int.reduceBEq, Int.reduceDiv])
    simp only [go_sem, ↓reduceIte, Nat.reduceLT, Nat.reduceLeDiff, Nat.reduceAdd, Nat.reduceSub, Nat.reduceMul, Nat.reduceEqDiff, Nat.reduceBEq, Nat.reduceMod, Nat.reduceDiv, Int.reduceToNat, reduceCtorEq, Int.reduceLT, Int.reduceLE, Int.reduceGT, Int.reduceGE, Int.reduceAdd, Int.reduceSub, Int.reduceMul, Int.reduceNeg, Int.reduceEq, Int.reduceNe, Int.reduceBNe, Int.reduceBEq, Int.reduceDiv, r0, r1, r2, r3, q0, q1, q2, q3, Int.cast_ofNat_Int, wi64]
  have hk : k3 = 0 := by omega
  have hsum : n - m = s0 + 18446744073709551616 * s1 + 340282366920938463463374607431768211456 * s2 + 6277101735386680763835789423207666416102355444464034512896 * s3 := by omega
  rw [if_pos (by omega), decide_eq_true (by omega), u_eq hs0 hs1 hs2 hs3 hsum]
  simp only [go_sem, ↓reduceIte, Nat.reduceLT, Nat.reduceLeDiff, Nat.reduceAdd, Nat.reduceSub, Nat.reduceMul, Nat.reduceEqDiff, Nat.reduceBEq, Nat.reduceMod, Nat.reduceDiv, Int.reduceToNat, reduceCtorEq, Int.reduceLT, Int.reduceLE, Int.reduceGT, Int.reduceGE, Int.reduceAdd, Int.reduceSub, Int.reduceMul, Int.reduceNeg, Int.reduceEq, Int.reduceNe, Int.reduceBNe, Int.reduceBEq, Int.reduceDiv, ex_round]
  refine finTup ?_
  show resOf _ _ [.cell 4 26, .tmp 5] = _
  simp only [go_sem, ↓reduceIte, Nat.reduceLT, Nat.reduceLeDiff, Nat.reduceAdd, Nat.reduceSub, Nat.reduceMul, Nat.reduceEqDiff, Nat.reduceBEq, Nat.reduceMod, Nat.reduceDiv, Int.reduceToNat, reduceCtorEq, Int.reduceLT, Int.reduceLE, Int.reduceGT, Int.reduceGE, Int.reduceAdd, Int.reduceSub, Int.reduceMul, Int.reduceNeg, Int.reduceEq, Int.reduceNe, Int.reduceBNe, Int.reduceBEq, Int.reduceDiv]
  try rfl
end Go.Proofs.Ytnamkghgehfphaa.VA
end
section
/- BumpKeeps: the law's function answers true. -/
namespace Go.Proofs.Ytnamkghgehfphaa.VA
set_option maxRecDepth 10000
set_option linter.unusedSimpArgs false
set_option linter.unusedVariables false
set_option maxHeartbeats 16000000

theorem better_self (a : TxD) : betterOf a a = false := by
  unfold betterOf
  rw [if_neg (by omega), if_neg (by omega), if_neg (by omega)]
  exact less_irrefl _
theorem better_one {a b : TxD} (ha : a.ok) (hb : b.ok) (va : validTx a = true) (vb : validTx b = true) : (betterOf a b != betterOf b a) = !decide (a = b) := by
  rcases Decidable.em (a = b) with e | e
  · subst e
    rw [better_self, decide_eq_true rfl]; rfl
  · rw [decide_eq_false e]
    have hr : txRaw a ≠ txRaw b := fun h => e (by
      have h1 := take_tx ha va
      rw [h, take_tx hb vb] at h1
      exact (Option.some.inj h1).symm)
    have ht := less_total hr
    unfold betterOf
    rcases Nat.lt_trichotomy a.bcap b.bcap with p | p | p
    · rw [if_pos (show a.bcap ≠ b.bcap by omega), if_pos (show b.bcap ≠ a.bcap by omega), decide_eq_true p, decide_eq_false (show ¬ b.bcap < a.bcap by omega)]; rfl
    · rw [if_neg (show ¬ a.bcap ≠ b.bcap by omega), if_neg (show ¬ b.bcap ≠ a.bcap by omega)]
      rcases Nat.lt_trichotomy a.cap b.cap with p | p | p
      · rw [if_pos (show a.cap ≠ b.cap by omega), if_pos (show b.cap ≠ a.cap by omega), decide_eq_true p, decide_eq_false (show ¬ b.cap < a.cap by omega)]; rfl
      · rw [if_neg (show ¬ a.cap ≠ b.cap by omega), if_neg (show ¬ b.cap ≠ a.cap by omega)]
        rcases Nat.lt_trichotomy a.tip b.tip with p | p | p
        · rw [if_pos (show a.tip ≠ b.tip by omega), if_pos (show b.tip ≠ a.tip by omega), decide_eq_true p, decide_eq_false (show ¬ b.tip < a.tip by omega)]; rfl
        · rw [if_neg (show ¬ a.tip ≠ b.tip by omega), if_neg (show ¬ b.tip ≠ a.tip by omega), ht]
          cases Op.bytesLess (txRaw b) (txRaw a) <;> rfl
        · rw [if_pos (show a.tip ≠ b.tip by omega), if_pos (show b.tip ≠ a.tip by omega), decide_eq_true p, decide_eq_false (show ¬ a.tip < b.tip by omega)]; rfl
      · rw [if_pos (show a.cap ≠ b.cap by omega), if_pos (show b.cap ≠ a.cap by omega), decide_eq_true p, decide_eq_false (show ¬ a.cap < b.cap by omega)]; rfl
    · rw [if_pos (show a.bcap ≠ b.bcap by omega), if_pos (show b.bcap ≠ a.bcap by omega), decide_eq_true p, decide_eq_false (show ¬ a.bcap < b.bcap by omega)]; rfl
theorem may_better {a b : TxD} (hp : pairOf a b = true) (h : mayOf a b = 0) (hz : a.bcap ≠ 0) : betterOf a b = true := by
  unfold mayOf at h
  rw [if_pos hp] at h
  have h2 : twice a.bcap b.bcap = true := by
    cases e : twice a.bcap b.bcap with
    | true => rfl
    | false => rw [e] at h; simp at h
  unfold twice at h2
  simp only [Bool.and_eq_true, decide_eq_true_eq] at h2
  unfold betterOf
  rw [if_pos (by omega), decide_eq_true (by omega)]
/-- A transaction with its three payments so. -/
def paid15 (t : TxD) (x y z : Nat) : TxD := ⟨t.frm, t.nonce, x, y, z, t.value, t.gas, t.hashes, t.blobs⟩
theorem paid15_ok {t : TxD} (h : t.ok) {x y z : Nat} (hx : x < U) (hy : y < U) (hz : z < U) : (paid15 t x y z).ok := ⟨h.frm, h.nonce, h.gas, hx, hy, hz, h.value, h.hashes, h.blobs, h.blob⟩
structure Plain15 (t : TxD) : Prop where
  ok : t.ok
  tip : 1 ≤ t.tip ∧ t.tip + t.tip < U
  cap : 1 ≤ t.cap ∧ t.cap + t.cap < U
  bcap : 1 ≤ t.bcap ∧ t.bcap + t.bcap < U
  pays : mayOf t (paid15 t (t.tip + t.tip) (t.cap + t.cap) (t.bcap + t.bcap)) = 0
  low0 : mayOf t (paid15 t (t.tip + t.tip - 1) (t.cap + t.cap) (t.bcap + t.bcap)) = 11
  low1 : mayOf t (paid15 t (t.tip + t.tip) (t.cap + t.cap - 1) (t.bcap + t.bcap)) = 11
  low2 : mayOf t (paid15 t (t.tip + t.tip) (t.cap + t.cap) (t.bcap + t.bcap - 1)) = 11
def mays15 (t : TxD) : Bool := (mayOf t (paid15 t (t.tip + t.tip) (t.cap + t.cap) (t.bcap + t.bcap)) == 0) && ((mayOf t (paid15 t (t.tip + t.tip - 1) (t.cap + t.cap) (t.bcap + t.bcap)) == 11) && ((mayOf t (paid15 t (t.tip + t.tip) (t.cap + t.cap - 1) (t.bcap + t.bcap)) == 11) && (mayOf t (paid15 t (t.tip + t.tip) (t.cap + t.cap) (t.bcap + t.bcap - 1)) == 11)))
theorem mays_all : ∀ q < 9, mays15 (plainTx 1 1 (5 + q)) = true := by decide +kernel
theorem plain15 {q : Nat} (h : q < 9) : Plain15 (plainTx 1 1 (5 + q)) := by
  have hm := mays_all q h
  unfold mays15 at hm
  simp only [Bool.and_eq_true, beq_iff_eq] at hm
  exact ⟨plain_ok 1 1 (5 + q) (by decide) (by decide) (by omega), by simp only [plainTx, U]; omega, by simp only [plainTx, U]; omega, by simp only [plainTx, U]; omega, hm.1, hm.2.1, hm.2.2.1, hm.2.2.2⟩
theorem u_one15 : u 1 = .agg [.int .u64 (1 : Int), .int .u64 (0 : Int), .int .u64 (0 : Int), .int .u64 (0 : Int)] := u_small 1 (by decide)
theorem twice15 {n : Nat} (h : n + n < U) : Contract Try.prog 46 [.agg [.int .u64 (lim (n) 0), .int .u64 (lim (n) 1), .int .u64 (lim (n) 2), .int .u64 (lim (n) 3)], .agg [.int .u64 (lim (n) 0), .int .u64 (lim (n) 1), .int .u64 (lim (n) 2), .int .u64 (lim (n) 3)]] (.tup [.agg [.int .u64 (lim (n + n) 0), .int .u64 (lim (n + n) 1), .int .u64 (lim (n + n) 2), .int .u64 (lim (n + n) 3)], .bool true]) := by
  have := c_ref1_Add n n (by omega) (by omega)
  rw [if_pos h, decide_eq_true h] at this
  exact this
theorem less15 {n : Nat} (h : n < U) (h1 : 1 ≤ n) : Contract Try.prog 47 [.agg [.int .u64 (lim (n) 0), .int .u64 (lim (n) 1), .int .u64 (lim (n) 2), .int .u64 (lim (n) 3)], .agg [.int .u64 (1 : Int), .int .u64 (0 : Int), .int .u64 (0 : Int), .int .u64 (0 : Int)]] (.tup [.agg [.int .u64 (lim (n - 1) 0), .int .u64 (lim (n - 1) 1), .int .u64 (lim (n - 1) 2), .int .u64 (lim (n - 1) 3)], .bool true]) := by
  have := c_ref1_Sub n 1 h (by unfold U; omega)
  rw [if_pos h1, decide_eq_true h1, u_one15] at this
  exact this
theorem c_BumpKeeps (l : List Ask15) (hl : l.length ≤ 1099511627776) (hok : ∀ a ∈ l, a.ok) : Contract Try.prog 6 [asks15 l] (.bool true) := by
  refine contract_of (C := cf 187 [0, 2, 3, 4, 5, 6, 7, 8, 9, 10, 11, 12, 13, 21, 37, 88, 106, 108, 149, 150, 151, 161, 171, 185] (fun _ => [])) (cf_ok _ _ _) (fn := Try.f6) Try.func6 (by kernel_rfl) rfl (by kernel_rfl) (by simp [cf]) (plain1 (asks15_plain l)) (by decide) (noCell (by kernel_rfl)) ?_
  simp only [go_sem, seval, asks15]
  refine ex_iter [0, 3] (fun i : Nat => ⟨[(0, .sl false 42 (l.map Ask15.av)), (3, .int .i64 i)], []⟩) (fun i => i ≤ l.length) (fun i => l.length - i) 0 ?_ ?_ ?_
  · simp only [ASt.keep, consIf, keepL, keepV, AV.isBot, List.contains_cons, List.contains_nil, Nat.reduceBEq, Bool.or_false, Bool.false_or, Bool.or_true, Bool.true_or, beq_self_eq_true, Bool.false_eq_true, ↓reduceIte, if_false, if_true]
    rfl
  · exact Nat.zero_le _
  · intro n i hi next
    simp only [go_sem, seval, List.length_map]
    refine ex_joinB 21 (decide (i < l.length) && decide (i < 10)) ?_ ?_
    · repeat' (first | (refine ex_split (fun h => ?_) (fun h => ?_)) | (with_reducible refine And.intro (by omega) ?_) |
        (simp only [go_sem, seval]))
      all_goals (try simp only [ASt.mk.injEq, List.cons.injEq, Prod.mk.injEq, AV.bool.injEq, true_and, and_true, eq_self])
      all_goals first | (simp_all; done) | (simp_all; omega) | (rw [Bool.eq_iff_iff]; simp only [List.length_map, Bool.or_eq_true, Bool.and_eq_true, Bool.not_eq_true', Bool.not_eq_false', decide_eq_true_eq, decide_eq_false_iff_not, bne_iff_ne, beq_iff_eq, ne_eq, true_iff, iff_true, false_iff, iff_false, Bool.false_eq_true, not_false_eq_true, not_true_eq_false] at *; omega)
    simp only [go_sem, seval]
    refine ex_br (fun h => ?_) (fun h => ?_)
    · have hlt : i < l.length := by simp at h; omega
      have h10 : i < 10 := by simp at h; omega
      obtain ⟨⟨a, b⟩, ea⟩ : ∃ q, l[i]? = some q := ⟨_, List.getElem?_eq_getElem hlt⟩
      have ho := hok ⟨a, b⟩ (List.mem_of_getElem? ea)
      have ha : a.ok := ho.a
      have hb : b.ok := ho.b
      have hh := r_heavy a b ha hb
      have h3 := r_Pair a b ha hb
      have b1 := r_Better a b ha hb
      have b2 := r_Better b a hb ha
      have b3 := r_Better a a ha ha
      have h4 := r_Eq a b ha hb
      have h6 := r_May a b ha hb
      simp only [go_sem, seval, List.length_map, List.getElem?_map, ea, Int.toNat_natCast, Ask15.av]
      repeat with_reducible refine And.intro (by first | omega | (simp only [List.length_cons, List.length_append, List.length_nil, List.length_map, List.length_take, List.length_drop, List.length_set]; omega)) ?_
      try simp only [go_sem, seval, List.getElem?_map, ea, Int.toNat_natCast, Ask15.av]
      refine ex_call (by exact hh) ?_
      cases hv : decide (weightOf a + weightOf b > 2000) with
      | true =>
        simp only [go_sem, seval]
        refine next (i + 1) _ (by omega) (by omega) ?_
        rw [← wi64_nat i (by omega)]
        simp only [ASt.keep, consIf, keepL, keepV, AV.isBot, List.contains_cons, List.contains_nil, Nat.reduceBEq, Bool.or_false, Bool.false_or, Bool.or_true, Bool.true_or, beq_self_eq_true, Bool.false_eq_true, ↓reduceIte, if_false, if_true]
        try rfl
      | false =>
        simp only [go_sem, seval]
        refine ex_call (by exact h3) ?_
        cases hp : pairOf a b with
        | false =>
          simp only [go_sem, seval]
          refine next (i + 1) _ (by omega) (by omega) ?_
          rw [← wi64_nat i (by omega)]
          simp only [ASt.keep, consIf, keepL, keepV, AV.isBot, List.contains_cons, List.contains_nil, Nat.reduceBEq, Bool.or_false, Bool.false_or, Bool.or_true, Bool.true_or, beq_self_eq_true, Bool.false_eq_true, ↓reduceIte, if_false, if_true]
          try rfl
        | true =>
          obtain ⟨va, vb, e1, e2⟩ := pair_valid hp
          have hp2 : pairOf b a = true := by
            unfold pairOf
            simp only [Bool.and_eq_true, beq_iff_eq]
            exact ⟨⟨⟨vb, va⟩, e1.symm⟩, e2.symm⟩
          have hp3 : pairOf a a = true := by
            unfold pairOf
            simp only [Bool.and_eq_true, beq_iff_eq]
            exact ⟨⟨⟨va, va⟩, trivial⟩, trivial⟩
          rw [hp, if_pos rfl, Bool.true_and] at b1
          rw [hp2, if_pos rfl, Bool.true_and] at b2
          rw [hp3, if_pos rfl, Bool.true_and, better_self] at b3
          have hone := better_one ha hb va vb
          have hmay := may_better (a := a) (b := b) hp
          generalize decide (a = b) = sa at hone h4
          generalize betterOf b a = bb at hone b2
          generalize hba : betterOf a b = ba at hone b1 hmay
          simp only [go_sem, seval]
          refine ex_call (by exact b1) ?_
          simp only [go_sem, seval]
          refine ex_call (by exact b2) ?_
          simp only [go_sem, seval]
          refine ex_call (by exact b3) ?_
          simp only [go_sem, seval]
          refine ex_call (by exact c_law15_num _) ?_
          simp only [go_sem, seval]
          refine ex_call (by exact c_law15_num _) ?_
          simp only [go_sem, seval]
          refine ex_call (by exact c_law15_num _) ?_
          simp only [go_sem, seval]
          refine ex_call (by exact h4) ?_
          have hres : ((!(ba == bb)) == sa) = false := by
            have h9 : (!(ba == bb)) = !sa := hone
            rw [h9]; cases sa <;> rfl
          generalize mayOf a b = m at h6 hmay
          simp only [go_sem, seval, hres]
          refine ex_call (by exact h6) ?_
          simp only [go_sem, seval]
          refine ex_call (by exact c_law15_num _) ?_
          rcases Decidable.em (m = 0) with hm | hm
          · rcases Decidable.em (a.bcap = 0) with hz | hz
            · have l0 := lims_small 0 (by decide)
              simp only [go_sem, seval, hm, hz, l0]
              refine ex_iter [0, 3, 11] (fun k : Nat => ⟨[(0, .sl false 42 (l.map Ask15.av)), (3, .int .i64 i), (11, .int .i64 k)], []⟩) (fun k => k ≤ 3) (fun k => 3 - k) 0 ?_ ?_ ?_
              · simp only [ASt.keep, consIf, keepL, keepV, AV.isBot, List.contains_cons, List.contains_nil, Nat.reduceBEq, Bool.or_false, Bool.false_or, Bool.or_true, Bool.true_or, beq_self_eq_true, Bool.false_eq_true, ↓reduceIte, if_false, if_true]
                try rfl
              · exact Nat.zero_le _
              · rintro m2 k hk next2
                simp only [go_sem, seval]
                refine ex_br (fun hd => ?_) (fun hd => ?_)
                · have hd : k < 3 := by have := of_decide_eq_true hd; omega
                  have hW := c_Within i 9 (by decide) (by decide)
                  have hq9 : withinOf i 9 < 9 := Nat.mod_lt _ (by decide)
                  generalize withinOf i 9 = q at hW hq9
                  have w5 : IntKind.i64.wrap (5 + (q : Int)) = ((5 + q : Nat) : Int) := by rw [wi64 (by omega) (by omega)]; omega
                  have w6 : IntKind.u64.wrap ((5 + q : Nat) : Int) = ((5 + q : Nat) : Int) := by rw [wu64 (by omega) (by omega)]
                  have hT : Contract Try.prog 44 [.int .i64 (1 : Int), .int .i64 (1 : Int), .int .u64 ((5 + q : Nat) : Int)] (txE (plainTx 1 1 (5 + q))) := c_T 1 1 (5 + q) (by omega)
                  have ht := plain15 hq9
                  generalize plainTx 1 1 (5 + q) = t at hT ht
                  have tw := ht.tip.2
                  have cw := ht.cap.2
                  have bw := ht.bcap.2
                  simp only [go_sem, seval]
                  refine ex_call (by exact hW) ?_
                  simp only [go_sem, seval, w5, w6]
                  refine ex_call (by exact hT) ?_
                  simp only [go_sem, seval]
                  refine ex_call (by exact r_Copy t ht.ok) ?_
                  simp only [go_sem, seval]
                  refine ex_call (by exact twice15 tw) ?_
                  simp only [go_sem, seval]
                  refine ex_call (by exact twice15 cw) ?_
                  simp only [go_sem, seval]
                  refine ex_call (by exact twice15 bw) ?_
                  simp only [go_sem, seval]
                  refine ex_call (by exact r_May t (paid15 t (t.tip + t.tip) (t.cap + t.cap) (t.bcap + t.bcap)) ht.ok (paid15_ok ht.ok tw cw bw)) ?_
                  rw [ht.pays]
                  simp only [go_sem, seval]
                  refine ex_call (by exact c_law15_num _) ?_
                  obtain rfl | rfl | rfl : k = 0 ∨ k = 1 ∨ k = 2 := by omega
                  · simp only [go_sem, seval]
                    refine ex_call (by exact less15 tw (by have := ht.tip; omega)) ?_
                    simp only [go_sem, seval]
                    refine ex_call (by exact r_May t (paid15 t (t.tip + t.tip - 1) (t.cap + t.cap) (t.bcap + t.bcap)) ht.ok (paid15_ok ht.ok (by have := ht.tip; omega) (by have := ht.cap; omega) (by have := ht.bcap; omega))) ?_
                    rw [ht.low0]
                    simp only [go_sem, seval]
                    refine ex_call (by exact c_law15_num _) ?_
                    simp only [go_sem, seval]
                    refine next2 (0 + 1) _ (by omega) (by omega) ?_
                    simp only [ASt.keep, consIf, keepL, keepV, AV.isBot, List.contains_cons, List.contains_nil, Nat.reduceBEq, Bool.or_false, Bool.false_or, Bool.or_true, Bool.true_or, beq_self_eq_true, Bool.false_eq_true, ↓reduceIte, if_false, if_true]
                    try rfl
                  · simp only [go_sem, seval]
                    refine ex_call (by exact less15 cw (by have := ht.cap; omega)) ?_
                    simp only [go_sem, seval]
                    refine ex_call (by exact r_May t (paid15 t (t.tip + t.tip) (t.cap + t.cap - 1) (t.bcap + t.bcap)) ht.ok (paid15_ok ht.ok (by have := ht.tip; omega) (by have := ht.cap; omega) (by have := ht.bcap; omega))) ?_
                    rw [ht.low1]
                    simp only [go_sem, seval]
                    refine ex_call (by exact c_law15_num _) ?_
                    simp only [go_sem, seval]
                    refine next2 (1 + 1) _ (by omega) (by omega) ?_
                    simp only [ASt.keep, consIf, keepL, keepV, AV.isBot, List.contains_cons, List.contains_nil, Nat.reduceBEq, Bool.or_false, Bool.false_or, Bool.or_true, Bool.true_or, beq_self_eq_true, Bool.false_eq_true, ↓reduceIte, if_false, if_true]
                    try rfl
                  · simp only [go_sem, seval]
                    refine ex_call (by exact less15 bw (by have := ht.bcap; omega)) ?_
                    simp only [go_sem, seval]
                    refine ex_call (by exact r_May t (paid15 t (t.tip + t.tip) (t.cap + t.cap) (t.bcap + t.bcap - 1)) ht.ok (paid15_ok ht.ok (by have := ht.tip; omega) (by have := ht.cap; omega) (by have := ht.bcap; omega))) ?_
                    rw [ht.low2]
                    simp only [go_sem, seval]
                    refine ex_call (by exact c_law15_num _) ?_
                    simp only [go_sem, seval]
                    refine next2 (2 + 1) _ (by omega) (by omega) ?_
                    simp only [ASt.keep, consIf, keepL, keepV, AV.isBot, List.contains_cons, List.contains_nil, Nat.reduceBEq, Bool.or_false, Bool.false_or, Bool.or_true, Bool.true_or, beq_self_eq_true, Bool.false_eq_true, ↓reduceIte, if_false, if_true]
                    try rfl
                · simp only [go_sem, seval]
                  refine next (i + 1) _ (by omega) (by omega) ?_
                  rw [← wi64_nat i (by omega)]
                  simp only [ASt.keep, consIf, keepL, keepV, AV.isBot, List.contains_cons, List.contains_nil, Nat.reduceBEq, Bool.or_false, Bool.false_or, Bool.or_true, Bool.true_or, beq_self_eq_true, Bool.false_eq_true, ↓reduceIte, if_false, if_true]
                  try rfl
            · have hba2 := hmay hm hz
              simp only [go_sem, seval, hm, hba2]
              generalize (!(lim a.bcap 0 == 0 && (lim a.bcap 1 == 0 && (lim a.bcap 2 == 0 && lim a.bcap 3 == 0)))) = w
              cases w
              · simp only [go_sem, seval, hba2]
                refine ex_iter [0, 3, 11] (fun k : Nat => ⟨[(0, .sl false 42 (l.map Ask15.av)), (3, .int .i64 i), (11, .int .i64 k)], []⟩) (fun k => k ≤ 3) (fun k => 3 - k) 0 ?_ ?_ ?_
                · simp only [ASt.keep, consIf, keepL, keepV, AV.isBot, List.contains_cons, List.contains_nil, Nat.reduceBEq, Bool.or_false, Bool.false_or, Bool.or_true, Bool.true_or, beq_self_eq_true, Bool.false_eq_true, ↓reduceIte, if_false, if_true]
                  try rfl
                · exact Nat.zero_le _
                · rintro m2 k hk next2
                  simp only [go_sem, seval]
                  refine ex_br (fun hd => ?_) (fun hd => ?_)
                  · have hd : k < 3 := by have := of_decide_eq_true hd; omega
                    have hW := c_Within i 9 (by decide) (by decide)
                    have hq9 : withinOf i 9 < 9 := Nat.mod_lt _ (by decide)
                    generalize withinOf i 9 = q at hW hq9
                    have w5 : IntKind.i64.wrap (5 + (q : Int)) = ((5 + q : Nat) : Int) := by rw [wi64 (by omega) (by omega)]; omega
                    have w6 : IntKind.u64.wrap ((5 + q : Nat) : Int) = ((5 + q : Nat) : Int) := by rw [wu64 (by omega) (by omega)]
                    have hT : Contract Try.prog 44 [.int .i64 (1 : Int), .int .i64 (1 : Int), .int .u64 ((5 + q : Nat) : Int)] (txE (plainTx 1 1 (5 + q))) := c_T 1 1 (5 + q) (by omega)
                    have ht := plain15 hq9
                    generalize plainTx 1 1 (5 + q) = t at hT ht
                    have tw := ht.tip.2
                    have cw := ht.cap.2
                    have bw := ht.bcap.2
                    simp only [go_sem, seval]
                    refine ex_call (by exact hW) ?_
                    simp only [go_sem, seval, w5, w6]
                    refine ex_call (by exact hT) ?_
                    simp only [go_sem, seval]
                    refine ex_call (by exact r_Copy t ht.ok) ?_
                    simp only [go_sem, seval]
                    refine ex_call (by exact twice15 tw) ?_
                    simp only [go_sem, seval]
                    refine ex_call (by exact twice15 cw) ?_
                    simp only [go_sem, seval]
                    refine ex_call (by exact twice15 bw) ?_
                    simp only [go_sem, seval]
                    refine ex_call (by exact r_May t (paid15 t (t.tip + t.tip) (t.cap + t.cap) (t.bcap + t.bcap)) ht.ok (paid15_ok ht.ok tw cw bw)) ?_
                    rw [ht.pays]
                    simp only [go_sem, seval]
                    refine ex_call (by exact c_law15_num _) ?_
                    obtain rfl | rfl | rfl : k = 0 ∨ k = 1 ∨ k = 2 := by omega
                    · simp only [go_sem, seval]
                      refine ex_call (by exact less15 tw (by have := ht.tip; omega)) ?_
                      simp only [go_sem, seval]
                      refine ex_call (by exact r_May t (paid15 t (t.tip + t.tip - 1) (t.cap + t.cap) (t.bcap + t.bcap)) ht.ok (paid15_ok ht.ok (by have := ht.tip; omega) (by have := ht.cap; omega) (by have := ht.bcap; omega))) ?_
                      rw [ht.low0]
                      simp only [go_sem, seval]
                      refine ex_call (by exact c_law15_num _) ?_
                      simp only [go_sem, seval]
                      refine next2 (0 + 1) _ (by omega) (by omega) ?_
                      simp only [ASt.keep, consIf, keepL, keepV, AV.isBot, List.contains_cons, List.contains_nil, Nat.reduceBEq, Bool.or_false, Bool.false_or, Bool.or_true, Bool.true_or, beq_self_eq_true, Bool.false_eq_true, ↓reduceIte, if_false, if_true]
                      try rfl
                    · simp only [go_sem, seval]
                      refine ex_call (by exact less15 cw (by have := ht.cap; omega)) ?_
                      simp only [go_sem, seval]
                      refine ex_call (by exact r_May t (paid15 t (t.tip + t.tip) (t.cap + t.cap - 1) (t.bcap + t.bcap)) ht.ok (paid15_ok ht.ok (by have := ht.tip; omega) (by have := ht.cap; omega) (by have := ht.bcap; omega))) ?_
                      rw [ht.low1]
                      simp only [go_sem, seval]
                      refine ex_call (by exact c_law15_num _) ?_
                      simp only [go_sem, seval]
                      refine next2 (1 + 1) _ (by omega) (by omega) ?_
                      simp only [ASt.keep, consIf, keepL, keepV, AV.isBot, List.contains_cons, List.contains_nil, Nat.reduceBEq, Bool.or_false, Bool.false_or, Bool.or_true, Bool.true_or, beq_self_eq_true, Bool.false_eq_true, ↓reduceIte, if_false, if_true]
                      try rfl
                    · simp only [go_sem, seval]
                      refine ex_call (by exact less15 bw (by have := ht.bcap; omega)) ?_
                      simp only [go_sem, seval]
                      refine ex_call (by exact r_May t (paid15 t (t.tip + t.tip) (t.cap + t.cap) (t.bcap + t.bcap - 1)) ht.ok (paid15_ok ht.ok (by have := ht.tip; omega) (by have := ht.cap; omega) (by have := ht.bcap; omega))) ?_
                      rw [ht.low2]
                      simp only [go_sem, seval]
                      refine ex_call (by exact c_law15_num _) ?_
                      simp only [go_sem, seval]
                      refine next2 (2 + 1) _ (by omega) (by omega) ?_
                      simp only [ASt.keep, consIf, keepL, keepV, AV.isBot, List.contains_cons, List.contains_nil, Nat.reduceBEq, Bool.or_false, Bool.false_or, Bool.or_true, Bool.true_or, beq_self_eq_true, Bool.false_eq_true, ↓reduceIte, if_false, if_true]
                      try rfl
                  · simp only [go_sem, seval]
                    refine next (i + 1) _ (by omega) (by omega) ?_
                    rw [← wi64_nat i (by omega)]
                    simp only [ASt.keep, consIf, keepL, keepV, AV.isBot, List.contains_cons, List.contains_nil, Nat.reduceBEq, Bool.or_false, Bool.false_or, Bool.or_true, Bool.true_or, beq_self_eq_true, Bool.false_eq_true, ↓reduceIte, if_false, if_true]
                    try rfl
              · simp only [go_sem, seval, hba2]
                refine ex_iter [0, 3, 11] (fun k : Nat => ⟨[(0, .sl false 42 (l.map Ask15.av)), (3, .int .i64 i), (11, .int .i64 k)], []⟩) (fun k => k ≤ 3) (fun k => 3 - k) 0 ?_ ?_ ?_
                · simp only [ASt.keep, consIf, keepL, keepV, AV.isBot, List.contains_cons, List.contains_nil, Nat.reduceBEq, Bool.or_false, Bool.false_or, Bool.or_true, Bool.true_or, beq_self_eq_true, Bool.false_eq_true, ↓reduceIte, if_false, if_true]
                  try rfl
                · exact Nat.zero_le _
                · rintro m2 k hk next2
                  simp only [go_sem, seval]
                  refine ex_br (fun hd => ?_) (fun hd => ?_)
                  · have hd : k < 3 := by have := of_decide_eq_true hd; omega
                    have hW := c_Within i 9 (by decide) (by decide)
                    have hq9 : withinOf i 9 < 9 := Nat.mod_lt _ (by decide)
                    generalize withinOf i 9 = q at hW hq9
                    have w5 : IntKind.i64.wrap (5 + (q : Int)) = ((5 + q : Nat) : Int) := by rw [wi64 (by omega) (by omega)]; omega
                    have w6 : IntKind.u64.wrap ((5 + q : Nat) : Int) = ((5 + q : Nat) : Int) := by rw [wu64 (by omega) (by omega)]
                    have hT : Contract Try.prog 44 [.int .i64 (1 : Int), .int .i64 (1 : Int), .int .u64 ((5 + q : Nat) : Int)] (txE (plainTx 1 1 (5 + q))) := c_T 1 1 (5 + q) (by omega)
                    have ht := plain15 hq9
                    generalize plainTx 1 1 (5 + q) = t at hT ht
                    have tw := ht.tip.2
                    have cw := ht.cap.2
                    have bw := ht.bcap.2
                    simp only [go_sem, seval]
                    refine ex_call (by exact hW) ?_
                    simp only [go_sem, seval, w5, w6]
                    refine ex_call (by exact hT) ?_
                    simp only [go_sem, seval]
                    refine ex_call (by exact r_Copy t ht.ok) ?_
                    simp only [go_sem, seval]
                    refine ex_call (by exact twice15 tw) ?_
                    simp only [go_sem, seval]
                    refine ex_call (by exact twice15 cw) ?_
                    simp only [go_sem, seval]
                    refine ex_call (by exact twice15 bw) ?_
                    simp only [go_sem, seval]
                    refine ex_call (by exact r_May t (paid15 t (t.tip + t.tip) (t.cap + t.cap) (t.bcap + t.bcap)) ht.ok (paid15_ok ht.ok tw cw bw)) ?_
                    rw [ht.pays]
                    simp only [go_sem, seval]
                    refine ex_call (by exact c_law15_num _) ?_
                    obtain rfl | rfl | rfl : k = 0 ∨ k = 1 ∨ k = 2 := by omega
                    · simp only [go_sem, seval]
                      refine ex_call (by exact less15 tw (by have := ht.tip; omega)) ?_
                      simp only [go_sem, seval]
                      refine ex_call (by exact r_May t (paid15 t (t.tip + t.tip - 1) (t.cap + t.cap) (t.bcap + t.bcap)) ht.ok (paid15_ok ht.ok (by have := ht.tip; omega) (by have := ht.cap; omega) (by have := ht.bcap; omega))) ?_
                      rw [ht.low0]
                      simp only [go_sem, seval]
                      refine ex_call (by exact c_law15_num _) ?_
                      simp only [go_sem, seval]
                      refine next2 (0 + 1) _ (by omega) (by omega) ?_
                      simp only [ASt.keep, consIf, keepL, keepV, AV.isBot, List.contains_cons, List.contains_nil, Nat.reduceBEq, Bool.or_false, Bool.false_or, Bool.or_true, Bool.true_or, beq_self_eq_true, Bool.false_eq_true, ↓reduceIte, if_false, if_true]
                      try rfl
                    · simp only [go_sem, seval]
                      refine ex_call (by exact less15 cw (by have := ht.cap; omega)) ?_
                      simp only [go_sem, seval]
                      refine ex_call (by exact r_May t (paid15 t (t.tip + t.tip) (t.cap + t.cap - 1) (t.bcap + t.bcap)) ht.ok (paid15_ok ht.ok (by have := ht.tip; omega) (by have := ht.cap; omega) (by have := ht.bcap; omega))) ?_
                      rw [ht.low1]
                      simp only [go_sem, seval]
                      refine ex_call (by exact c_law15_num _) ?_
                      simp only [go_sem, seval]
                      refine next2 (1 + 1) _ (by omega) (by omega) ?_
                      simp only [ASt.keep, consIf, keepL, keepV, AV.isBot, List.contains_cons, List.contains_nil, Nat.reduceBEq, Bool.or_false, Bool.false_or, Bool.or_true, Bool.true_or, beq_self_eq_true, Bool.false_eq_true, ↓reduceIte, if_false, if_true]
                      try rfl
                    · simp only [go_sem, seval]
                      refine ex_call (by exact less15 bw (by have := ht.bcap; omega)) ?_
                      simp only [go_sem, seval]
                      refine ex_call (by exact r_May t (paid15 t (t.tip + t.tip) (t.cap + t.cap) (t.bcap + t.bcap - 1)) ht.ok (paid15_ok ht.ok (by have := ht.tip; omega) (by have := ht.cap; omega) (by have := ht.bcap; omega))) ?_
                      rw [ht.low2]
                      simp only [go_sem, seval]
                      refine ex_call (by exact c_law15_num _) ?_
                      simp only [go_sem, seval]
                      refine next2 (2 + 1) _ (by omega) (by omega) ?_
                      simp only [ASt.keep, consIf, keepL, keepV, AV.isBot, List.contains_cons, List.contains_nil, Nat.reduceBEq, Bool.or_false, Bool.false_or, Bool.or_true, Bool.true_or, beq_self_eq_true, Bool.false_eq_true, ↓reduceIte, if_false, if_true]
                      try rfl
                  · simp only [go_sem, seval]
                    refine next (i + 1) _ (by omega) (by omega) ?_
                    rw [← wi64_nat i (by omega)]
                    simp only [ASt.keep, consIf, keepL, keepV, AV.isBot, List.contains_cons, List.contains_nil, Nat.reduceBEq, Bool.or_false, Bool.false_or, Bool.or_true, Bool.true_or, beq_self_eq_true, Bool.false_eq_true, ↓reduceIte, if_false, if_true]
                    try rfl
          · have hm2 : (m == 0) = false := beq_eq_false_iff_ne.2 hm
            simp only [go_sem, seval, hm2]
            refine ex_iter [0, 3, 11] (fun k : Nat => ⟨[(0, .sl false 42 (l.map Ask15.av)), (3, .int .i64 i), (11, .int .i64 k)], []⟩) (fun k => k ≤ 3) (fun k => 3 - k) 0 ?_ ?_ ?_
            · simp only [ASt.keep, consIf, keepL, keepV, AV.isBot, List.contains_cons, List.contains_nil, Nat.reduceBEq, Bool.or_false, Bool.false_or, Bool.or_true, Bool.true_or, beq_self_eq_true, Bool.false_eq_true, ↓reduceIte, if_false, if_true]
              try rfl
            · exact Nat.zero_le _
            · rintro m2 k hk next2
              simp only [go_sem, seval]
              refine ex_br (fun hd => ?_) (fun hd => ?_)
              · have hd : k < 3 := by have := of_decide_eq_true hd; omega
                have hW := c_Within i 9 (by decide) (by decide)
                have hq9 : withinOf i 9 < 9 := Nat.mod_lt _ (by decide)
                generalize withinOf i 9 = q at hW hq9
                have w5 : IntKind.i64.wrap (5 + (q : Int)) = ((5 + q : Nat) : Int) := by rw [wi64 (by omega) (by omega)]; omega
                have w6 : IntKind.u64.wrap ((5 + q : Nat) : Int) = ((5 + q : Nat) : Int) := by rw [wu64 (by omega) (by omega)]
                have hT : Contract Try.prog 44 [.int .i64 (1 : Int), .int .i64 (1 : Int), .int .u64 ((5 + q : Nat) : Int)] (txE (plainTx 1 1 (5 + q))) := c_T 1 1 (5 + q) (by omega)
                have ht := plain15 hq9
                generalize plainTx 1 1 (5 + q) = t at hT ht
                have tw := ht.tip.2
                have cw := ht.cap.2
                have bw := ht.bcap.2
                simp only [go_sem, seval]
                refine ex_call (by exact hW) ?_
                simp only [go_sem, seval, w5, w6]
                refine ex_call (by exact hT) ?_
                simp only [go_sem, seval]
                refine ex_call (by exact r_Copy t ht.ok) ?_
                simp only [go_sem, seval]
                refine ex_call (by exact twice15 tw) ?_
                simp only [go_sem, seval]
                refine ex_call (by exact twice15 cw) ?_
                simp only [go_sem, seval]
                refine ex_call (by exact twice15 bw) ?_
                simp only [go_sem, seval]
                refine ex_call (by exact r_May t (paid15 t (t.tip + t.tip) (t.cap + t.cap) (t.bcap + t.bcap)) ht.ok (paid15_ok ht.ok tw cw bw)) ?_
                rw [ht.pays]
                simp only [go_sem, seval]
                refine ex_call (by exact c_law15_num _) ?_
                obtain rfl | rfl | rfl : k = 0 ∨ k = 1 ∨ k = 2 := by omega
                · simp only [go_sem, seval]
                  refine ex_call (by exact less15 tw (by have := ht.tip; omega)) ?_
                  simp only [go_sem, seval]
                  refine ex_call (by exact r_May t (paid15 t (t.tip + t.tip - 1) (t.cap + t.cap) (t.bcap + t.bcap)) ht.ok (paid15_ok ht.ok (by have := ht.tip; omega) (by have := ht.cap; omega) (by have := ht.bcap; omega))) ?_
                  rw [ht.low0]
                  simp only [go_sem, seval]
                  refine ex_call (by exact c_law15_num _) ?_
                  simp only [go_sem, seval]
                  refine next2 (0 + 1) _ (by omega) (by omega) ?_
                  simp only [ASt.keep, consIf, keepL, keepV, AV.isBot, List.contains_cons, List.contains_nil, Nat.reduceBEq, Bool.or_false, Bool.false_or, Bool.or_true, Bool.true_or, beq_self_eq_true, Bool.false_eq_true, ↓reduceIte, if_false, if_true]
                  try rfl
                · simp only [go_sem, seval]
                  refine ex_call (by exact less15 cw (by have := ht.cap; omega)) ?_
                  simp only [go_sem, seval]
                  refine ex_call (by exact r_May t (paid15 t (t.tip + t.tip) (t.cap + t.cap - 1) (t.bcap + t.bcap)) ht.ok (paid15_ok ht.ok (by have := ht.tip; omega) (by have := ht.cap; omega) (by have := ht.bcap; omega))) ?_
                  rw [ht.low1]
                  simp only [go_sem, seval]
                  refine ex_call (by exact c_law15_num _) ?_
                  simp only [go_sem, seval]
                  refine next2 (1 + 1) _ (by omega) (by omega) ?_
                  simp only [ASt.keep, consIf, keepL, keepV, AV.isBot, List.contains_cons, List.contains_nil, Nat.reduceBEq, Bool.or_false, Bool.false_or, Bool.or_true, Bool.true_or, beq_self_eq_true, Bool.false_eq_true, ↓reduceIte, if_false, if_true]
                  try rfl
                · simp only [go_sem, seval]
                  refine ex_call (by exact less15 bw (by have := ht.bcap; omega)) ?_
                  simp only [go_sem, seval]
                  refine ex_call (by exact r_May t (paid15 t (t.tip + t.tip) (t.cap + t.cap) (t.bcap + t.bcap - 1)) ht.ok (paid15_ok ht.ok (by have := ht.tip; omega) (by have := ht.cap; omega) (by have := ht.bcap; omega))) ?_
                  rw [ht.low2]
                  simp only [go_sem, seval]
                  refine ex_call (by exact c_law15_num _) ?_
                  simp only [go_sem, seval]
                  refine next2 (2 + 1) _ (by omega) (by omega) ?_
                  simp only [ASt.keep, consIf, keepL, keepV, AV.isBot, List.contains_cons, List.contains_nil, Nat.reduceBEq, Bool.or_false, Bool.false_or, Bool.or_true, Bool.true_or, beq_self_eq_true, Bool.false_eq_true, ↓reduceIte, if_false, if_true]
                  try rfl
              · simp only [go_sem, seval]
                refine next (i + 1) _ (by omega) (by omega) ?_
                rw [← wi64_nat i (by omega)]
                simp only [ASt.keep, consIf, keepL, keepV, AV.isBot, List.contains_cons, List.contains_nil, Nat.reduceBEq, Bool.or_false, Bool.false_or, Bool.or_true, Bool.true_or, beq_self_eq_true, Bool.false_eq_true, ↓reduceIte, if_false, if_true]
                try rfl
    · simp only [go_sem, seval]
      refine ex_call (by exact c_law15_wakes) ?_
      simp only [go_sem, seval]
      refine finOne ?_ (fun _ e => by cases e)
      show resOf _ _ [.tmp 2] = _
      simp only [go_sem, seval]
theorem law_BumpKeeps (x : AV) (h : Ty ti 62 x) : Contract Try.prog 6 [x] (.bool true) := by
  obtain ⟨l, rfl, hl, hok⟩ := ty_asks15 h
  exact c_BumpKeeps l hl hok
end Go.Proofs.Ytnamkghgehfphaa.VA
end
