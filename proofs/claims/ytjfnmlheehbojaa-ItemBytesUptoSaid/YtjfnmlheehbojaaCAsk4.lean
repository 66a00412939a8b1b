/- Questions of the laws on items. -/
import Derived.Test.YtjfnmlheehbojaaCItem3
namespace Go.Proofs.Ytjfnmlheehbojaa.VA
set_option maxRecDepth 10000
set_option linter.unusedSimpArgs false
set_option linter.unusedVariables false
set_option maxHeartbeats 4000000

structure Ask4 where
  it : ItemD
  s : List UInt8
def Ask4.av (a : Ask4) : AV := askAv a.it a.s
def asks4 (l : List Ask4) : AV := .sl false 4 (l.map Ask4.av)
theorem asks4_plain (l : List Ask4) : Plain (asks4 l) := .sl 4 _ fun c hc => by
  obtain ⟨a, _, rfl⟩ := List.mem_map.1 hc
  exact askAv_plain a.it a.s
structure Ask4.ok (a : Ask4) : Prop where
  it : a.it.wt ≤ 1048576
  s : a.s.length ≤ 1048576
theorem Ask4.ok.itok {a : Ask4} (h : a.ok) : a.it.ok := by have := h.it; unfold ItemD.ok; omega
theorem sum_ones {α : Type} : ∀ l : List α, (l.map (fun _ => 1)).sum = l.length
  | [] => rfl
  | a :: l => by rw [List.map_cons, List.sum_cons, sum_ones l, List.length_cons, Nat.add_comm]
theorem ty_asks4 {x : AV} (h : Ty ti 50 x) (hb : x.bulk ≤ 1048576) : ∃ l : List Ask4, x = asks4 l ∧ l.length ≤ 1048576 ∧ ∀ a ∈ l, a.ok := by
  obtain ⟨es, rfl, _, hes⟩ := ty_slice rfl h
  have hb2 : AV.bulks es + 1 ≤ 1048576 := by rw [AV.bulk] at hb; exact hb
  have each : ∀ y ∈ es, ∃ a : Ask4, y = a.av := fun y hy => by
    obtain ⟨xs, rfl, hl, hf⟩ := ty_struct rfl (hes y hy)
    have hl : xs.length = 2 := hl
    match xs, hl with
    | [p, q], _ =>
      have hp := hf 0 _ _ _ _ rfl rfl
      have hq := hf 1 _ _ _ _ rfl rfl
      obtain ⟨it, rfl⟩ := ty_item _ hp (Nat.le_refl _)
      obtain ⟨s, rfl, _⟩ := ty_str rfl hq
      refine ⟨⟨it, s⟩, ?_⟩
      simp only [List.flatMap_cons, List.flatMap_nil, ItemD.av_eq, AV.flat, Ask4.av, askAv]
      rfl
  obtain ⟨l, rfl⟩ := map_of_all (f := Ask4.av) es each
  have hlen := bulks_map Ask4.av (fun _ => 1) (fun a => by unfold Ask4.av askAv; rw [AV.bulk]; omega) l
  rw [sum_ones] at hlen
  refine ⟨l, rfl, by omega, fun a ha => ?_⟩
  have h1 := bulks_mem (List.mem_map_of_mem (f := Ask4.av) ha)
  have h2 := wt_bulk a.it
  have h3 : a.av.bulk = AV.bulks a.it.cells + (a.s.length + 1) + 1 := by
    unfold Ask4.av askAv
    simp only [AV.bulk, bulks_append, AV.bulks, Nat.add_zero]
  rw [a.it.av_eq, AV.bulk] at h2
  exact ⟨by omega, by omega⟩
end Go.Proofs.Ytjfnmlheehbojaa.VA
