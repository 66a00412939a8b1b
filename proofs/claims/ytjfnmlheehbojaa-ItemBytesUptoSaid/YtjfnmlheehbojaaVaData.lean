/- A law's argument, as data, is a typed value of the abstract machine. -/
import Derived.Test.YtjfnmlheehbojaaVaFit
import Derived.OpenShut
import Derived.SizedLaws
namespace Go.Proofs.Ytjfnmlheehbojaa.VA
open Go.ChangeShapes Go.WideShapes

/-- A value of a type. -/
inductive Ty (ti : TypeId → TI) : TypeId → AV → Prop
  | int {t : TypeId} {k : IntKind} (n : Int) (h : (ti t).kind = .int k) (hw : (Lit.int k n).wf = true) : Ty ti t (.int k n)
  | bool {t : TypeId} (b : Bool) (h : (ti t).kind = .bool) : Ty ti t (.bool b)
  | str {t : TypeId} (s : List UInt8) (h : (ti t).kind = .str) (hs : s.length ≤ reachBytes) : Ty ti t (.str s)
  | slice {t e : TypeId} {esz eb : Nat} (es : List AV) (h : (ti t).kind = .slice e esz eb) (hs : es.length * eb ≤ reachBytes) (he : ∀ x, x ∈ es → Ty ti e x) : Ty ti t (.sl false esz es)
  | arr {t e : TypeId} {n esz : Nat} (xs : List AV) (h : (ti t).kind = .arr n e esz) (hn : xs.length = n) (he : ∀ x, x ∈ xs → Ty ti e x) : Ty ti t (.agg (xs.flatMap AV.flat))
  | struct {t : TypeId} {fs : List (Nat × Nat × TypeId)} (xs : List AV) (h : (ti t).kind = .struct fs) (hn : xs.length = fs.length) (he : ∀ (j : Nat) off sz ft x, fs[j]? = some (off, sz, ft) → xs[j]? = some x → Ty ti ft x) : Ty ti t (.agg (xs.flatMap AV.flat))

def contig : Nat → List (Nat × Nat × TypeId) → Nat → Bool
  | o, [], n => decide (o = n)
  | o, (off, sz, _) :: r, n => decide (off = o) && contig (o + sz) r n
def childB (ti : TypeId → TI) (S : List Nat) (t : TypeId) : Bool :=
  match (ti t).kind with
  | .int _ | .bool | .str => true
  | .slice e _ _ => S.contains e
  | .arr n e esz => S.contains e && decide ((ti t).size = n * esz) && decide ((ti e).size = esz)
  | .struct fs => fs.all (fun p => S.contains p.2.2 && decide ((ti p.2.2).size = p.2.1)) && contig 0 fs (ti t).size
  | _ => false
def closedB (ti : TypeId → TI) (S : List Nat) : Bool := S.all (childB ti S)

/-! How much a value holds. -/
mutual
def AV.bulk : AV → Nat
  | .str s => s.length + 1
  | .agg cs => AV.bulks cs + 1
  | .sl _ _ es => AV.bulks es + 1
  | _ => 1
def AV.bulks : List AV → Nat
  | [] => 0
  | x :: xs => AV.bulk x + AV.bulks xs
end
theorem bulks_append : ∀ xs ys : List AV, AV.bulks (xs ++ ys) = AV.bulks xs + AV.bulks ys
  | [], ys => by simp [AV.bulks]
  | x :: xs, ys => by rw [List.cons_append, AV.bulks, AV.bulks, bulks_append xs ys]; omega
theorem bulks_flat : ∀ xs : List AV, AV.bulks (xs.flatMap AV.flat) ≤ AV.bulks xs
  | [] => by simp [AV.bulks]
  | x :: xs => by
    rw [List.flatMap_cons, bulks_append, AV.bulks]
    have h1 := bulks_flat xs
    have h2 : AV.bulks x.flat ≤ AV.bulk x := by cases x <;> simp [AV.flat, AV.bulk, AV.bulks]
    omega
theorem bulks_le : ∀ (xs : List AV) (ns : List Nat), xs.length ≤ ns.length → (∀ (j : Nat) x n, xs[j]? = some x → ns[j]? = some n → x.bulk ≤ n) → AV.bulks xs ≤ ns.sum
  | [], ns, _, _ => by simp [AV.bulks]
  | x :: xs, [], h, _ => by simp at h
  | x :: xs, n :: ns, h, k => by
    rw [AV.bulks, List.sum_cons]
    have h1 := bulks_le xs ns (by simpa using h) fun j x n hx hn => k (j + 1) x n hx hn
    have h2 := k 0 x n rfl rfl
    omega
/-- A measure of data. -/
structure BulkOk {H : Type} (B : DataW H → Nat) : Prop where
  one : ∀ d, 1 ≤ B d
  str : ∀ bs, bs.length + 1 ≤ B (.lit (.string bs))
  slice : ∀ es sp, (es.map B).sum + 1 ≤ B (.slice es sp)
  agg : ∀ ps, (ps.map B).sum + 1 ≤ B (.agg ps)
mutual
def bulkD {H : Type} : DataW H → Nat
  | .lit (.string bytes) => bytes.length + 1
  | .slice elems _ => bulkDs elems + 1
  | .agg parts => bulkDs parts + 1
  | _ => 1
def bulkDs {H : Type} : List (DataW H) → Nat
  | [] => 0
  | d :: r => bulkD d + bulkDs r
end
theorem bulkDs_sum {H : Type} : ∀ l : List (DataW H), bulkDs l = (l.map bulkD).sum
  | [] => by simp [bulkDs]
  | d :: r => by rw [bulkDs, List.map_cons, List.sum_cons, bulkDs_sum r]
theorem bulkD_ok {H : Type} : BulkOk (H := H) bulkD where
  one d := by cases d <;> (try rename_i l; cases l) <;> simp [bulkD]
  str bs := by simp [bulkD]
  slice es sp := by rw [bulkD, bulkDs_sum]; exact Nat.le_refl _
  agg ps := by rw [bulkD, bulkDs_sum]; exact Nat.le_refl _

/-- The value that a list of cells is. -/
def valOf (agg : Bool) (cs : List Value) : Value := if agg = true then .agg cs.toArray else cs.headD undef
/-- All cells of a world. -/
def allCells (w : World) : Imm := fun b o => w.cell? ⟨b, o, none⟩
theorem allCells_ok (w : World) : Imm.ok (allCells w) w := fun _ _ _ h => h

section
variable {H : Type} {enc : TypeId × Value → H} {P : Program} {w : World} {base : Nat} {spare : Nat → Bool} {held : Bool} {ti : TypeId → TI} {S : List Nat}

theorem weightsAll_mem {e : TypeId} : ∀ (ds : List (DataW H)) (d : DataW H), d ∈ ds → (DataW.weightsAll P e ds).all (· ≤ reachBytes) = true → (d.weights P e).all (· ≤ reachBytes) = true
  | [], d, hd, _ => by cases hd
  | x :: r, d, hd, h => by
    simp only [DataW.weightsAll, List.all_append, Bool.and_eq_true] at h
    rcases List.mem_cons.1 hd with rfl | hd
    · exact h.1
    · exact weightsAll_mem r d hd h.2
theorem weightsEach_get : ∀ (ts : List TypeId) (ds : List (DataW H)) (j : Nat) (t : TypeId) (d : DataW H), ts[j]? = some t → ds[j]? = some d → (DataW.weightsEach P ts ds).all (· ≤ reachBytes) = true → (d.weights P t).all (· ≤ reachBytes) = true
  | [], ds, j, t, d, ht, _, _ => by simp at ht
  | _ :: _, [], j, t, d, _, hd, _ => by simp at hd
  | t0 :: ts, d0 :: ds, j, t, d, ht, hd, h => by
    simp only [DataW.weightsEach, List.all_append, Bool.and_eq_true] at h
    cases j with
    | zero => cases ht; cases hd; exact h.1
    | succ j => exact weightsEach_get ts ds j t d ht hd h.2

theorem cellsOf_fit {T : TypeId} (h : Fit P ti T) : P.cellsOf T = (ti T).size := by
  obtain ⟨i, z, h1, h2, _⟩ := h.info
  simp [Program.cellsOf, h1, h2]

/-- Parts laid one behind another. -/
theorem flat_get : ∀ (xs : List AV) (sizes : List Nat), xs.length = sizes.length → (∀ (j : Nat) x n, xs[j]? = some x → sizes[j]? = some n → x.flat.length = n) → (xs.flatMap AV.flat).length = sizes.sum
  | [], [], _, _ => rfl
  | x :: xs, n :: ns, hl, h => by
    simp only [List.flatMap_cons, List.length_append, List.sum_cons]
    rw [h 0 x n rfl rfl, flat_get xs ns (by simpa using hl) fun j x n hx hn => h (j + 1) x n hx hn]

theorem agg_parts {I : Imm} {M : Nat → Prop} : ∀ (xs : List AV) (vs : List Value) (cs : List Value), xs.length = vs.length → cs = vs.flatMap (fun v => v.cells.toList) → (∀ (j : Nat) x v, xs[j]? = some x → vs[j]? = some v → AR M I x v) →
    (xs.flatMap AV.flat).length = cs.length ∧ (∀ (j : Nat) v, cs[j]? = some v → v.oneCell' = true) ∧ ∀ (j : Nat) c v, (xs.flatMap AV.flat)[j]? = some c → cs[j]? = some v → AR M I c v
  | [], [], cs, _, hc, _ => by
    subst hc
    exact ⟨rfl, fun j v hv => by simp at hv, fun j c v hc => by simp at hc⟩
  | x :: xs, v :: vs, cs, hl, hc, h => by
    subst hc
    obtain ⟨h1, h2, h3⟩ := agg_parts xs vs _ (by simpa using hl) rfl fun j x v hx hv => h (j + 1) x v hx hv
    have hx := h 0 x v rfl rfl
    have hlen : x.flat.length = v.cells.toList.length := by rw [hx.flen]; simp
    simp only [List.flatMap_cons]
    refine ⟨by simp only [List.length_append, h1, hlen], fun j u hu => ?_, fun j c u hc hu => ?_⟩
    · by_cases hj : j < v.cells.toList.length
      · rw [List.getElem?_append_left hj] at hu
        exact hx.one j u (by simpa using hu)
      · rw [List.getElem?_append_right (by omega)] at hu
        exact h2 _ u hu
    · by_cases hj : j < v.cells.toList.length
      · rw [List.getElem?_append_left hj] at hu
        rw [List.getElem?_append_left (by omega)] at hc
        exact hx.fcell j c u hc (by simpa using hu)
      · rw [List.getElem?_append_right (by omega)] at hu hc
        rw [hlen] at hc
        exact h3 _ c u hc hu
  | [], _ :: _, _, hl, _, _ => by simp at hl
  | _ :: _, [], _, hl, _, _ => by simp at hl

/-- A list cut into parts at contiguous places. -/
theorem contig_cut : ∀ (fs : List (Nat × Nat × TypeId)) (o n : Nat) (cs : List Value), contig o fs n = true → cs.length + o = n → o ≤ n →
    cs = (fs.map fun p => (cs.drop (p.1 - o)).take p.2.1).flatten ∧ ∀ p, p ∈ fs → o ≤ p.1 ∧ p.1 - o + p.2.1 ≤ cs.length
  | [], o, n, cs, h, hl, ho => by
    simp only [contig, decide_eq_true_eq] at h
    have : cs.length = 0 := by omega
    exact ⟨by simpa using List.eq_nil_of_length_eq_zero this, fun p hp => by cases hp⟩
  | (off, sz, ft) :: r, o, n, cs, h, hl, ho => by
    simp only [contig, Bool.and_eq_true, decide_eq_true_eq] at h
    obtain ⟨rfl, h2⟩ := h
    have hsum : off + sz ≤ n := by
      have gen : ∀ (r : List (Nat × Nat × TypeId)) (o : Nat), contig o r n = true → o ≤ n := by
        intro r
        induction r with
        | nil => intro o h; simp only [contig, decide_eq_true_eq] at h; omega
        | cons p r ih =>
          intro o h
          obtain ⟨a, b, c⟩ := p
          simp only [contig, Bool.and_eq_true, decide_eq_true_eq] at h
          have := ih _ h.2
          omega
      exact gen r _ h2
    obtain ⟨h3, h4⟩ := contig_cut r (off + sz) n (cs.drop sz) h2 (by rw [List.length_drop]; omega) hsum
    refine ⟨?_, fun p hp => ?_⟩
    · rw [List.map_cons, List.flatten_cons, Nat.sub_self, List.drop_zero]
      conv => lhs; rw [← List.take_append_drop sz cs]
      congr 1
      rw [h3]
      congr 1
      apply List.map_congr_left
      intro p hp
      obtain ⟨q1, q2⟩ := h4 p hp
      rw [List.drop_drop, show sz + (p.1 - (off + sz)) = p.1 - off by omega]
    · rcases List.mem_cons.1 hp with rfl | hp
      · simp only [Nat.sub_self, Nat.zero_add]
        exact ⟨Nat.le_refl _, by omega⟩
      · obtain ⟨q1, q2⟩ := h4 p hp
        rw [List.length_drop] at q2
        exact ⟨by omega, by omega⟩

theorem cells_val {ag : Bool} {cs : List Value} (h1 : ag = false → ∃ v, cs = [v] ∧ v.oneCell' = true) : (valOf ag cs).cells.toList = cs := by
  unfold valOf
  cases ag with
  | true => simp [Value.cells]
  | false =>
    obtain ⟨v, rfl, hv⟩ := h1 rfl
    rw [if_neg (by simp)]
    simp [cells_one hv]

/-- What is read as data is a typed value. -/
theorem trod_ty2 {B : DataW H → Nat} (hB : BulkOk B) (hfit : ∀ T, (ti T).kind.known = true → Fit P ti T) (hS : closedB ti S = true) : ∀ (fuel : Nat) (t : TypeId) (cs : List Value) (d : DataW H) (ps : List MemPlace), t ∈ S → DataW.trod enc P w base spare held fuel t cs = some (d, ps) →
    (d.weights P t).all (· ≤ reachBytes) = true → ∃ x, Ty ti t x ∧ AR (fun _ => True) (allCells w) x (valOf (ti t).kind.isAgg cs) ∧ ((ti t).kind.isAgg = false → ∃ v, cs = [v] ∧ v.oneCell' = true) ∧ x.bulk ≤ B d := by
  intro fuel
  induction fuel with
  | zero => intro t cs d ps _ h; simp [DataW.trod] at h
  | succ fuel ih =>
    intro t cs d ps ht h hw
    simp only [closedB, List.all_eq_true] at hS
    have hc := hS t ht
    unfold childB at hc
    have hch : ∀ e, S.contains e = true → e ∈ S := fun e he => by simpa using he
    cases hk : (ti t).kind with
    | int k =>
      have hf := (hfit t (by rw [hk]; rfl)).kind
      rw [hk] at hf
      obtain ⟨n, rfl, _, hwf⟩ := DataW.trod_int (show P.underlying t = some (.int k) from hf) h
      exact ⟨.int k n, .int n hk hwf, .int k n, fun _ => ⟨_, rfl, rfl⟩, hB.one _⟩
    | bool =>
      have hf := (hfit t (by rw [hk]; rfl)).kind
      rw [hk] at hf
      obtain ⟨b, rfl, _⟩ := DataW.trod_bool (show P.underlying t = some .bool from hf) h
      exact ⟨.bool b, .bool b hk, .bool b, fun _ => ⟨_, rfl, rfl⟩, hB.one _⟩
    | str =>
      have hf := (hfit t (by rw [hk]; rfl)).kind
      rw [hk] at hf
      obtain ⟨s, rfl, hd, _⟩ := DataW.trod_string (show P.underlying t = some .string from hf) h
      cases hd
      simp only [DataW.weights, List.all_cons, List.all_nil, Bool.and_true, decide_eq_true_eq] at hw
      have hs : (⟨s.data.toList.toArray⟩ : ByteArray) = s := by cases s; simp
      refine ⟨.str s.data.toList, .str _ hk hw, ?_, fun _ => ⟨_, rfl, rfl⟩, hB.str _⟩
      have := AR.str (M := fun _ => True) (I := allCells w) s.data.toList
      rw [hs] at this
      exact this
    | func => rw [hk] at hc; cases hc
    | other => rw [hk] at hc; cases hc
    | slice e esz eb =>
      rw [hk] at hc
      have hf := (hfit t (by rw [hk]; rfl)).kind
      rw [hk] at hf
      obtain ⟨hu, ie, z, hie, hsz, hby, hb0, hz, hzs, he0⟩ := hf
      have hcell : P.cellsOf e = esz := by simp [Program.cellsOf, hie, hsz]
      have hbytes : P.bytesOf e = eb := by simp [Program.bytesOf, hie, hby]
      rcases DataW.trod_slice hu h with ⟨rfl, hx⟩ | ⟨a, len, cap, elems, rest, n, hn, rfl, hx, _, hlc, hcm, hel, hget, _, _⟩
      · cases hx
        exact ⟨.sl false esz [], .slice [] hk (by simp) (fun x hx => by cases hx), .slnil false esz none 0, fun _ => ⟨_, rfl, rfl⟩, hB.one _⟩
      · obtain rfl : fuel = n := by omega
        cases hx
        simp only [DataW.weights, hu, List.all_cons, List.all_append, Bool.and_eq_true, decide_eq_true_eq, hbytes, List.length_map] at hw
        have each : ∀ i, ∃ x cs, i < len → w.cells? base (a.add (i * esz)) esz = some cs ∧ Ty ti e x ∧ AR (fun _ => True) (allCells w) x (valOf (ti e).kind.isAgg cs) ∧ (valOf (ti e).kind.isAgg cs).cells.toList = cs ∧ ∀ n, ((elems.map (·.1)).map B)[i]? = some n → x.bulk ≤ n := by
          intro i
          by_cases hi : i < len
          · have hg := hget i hi
            rw [hcell] at hg
            have hie' : i < elems.length := by omega
            rw [List.getElem?_eq_getElem hie', Option.bind_eq_some_iff] at hg
            obtain ⟨cs, hcs, htr⟩ := hg
            have hwi := weightsAll_mem (P := P) (e := e) (elems.map (·.1)) elems[i].1 (List.mem_map.2 ⟨elems[i], List.getElem_mem hie', rfl⟩) hw.2.1
            obtain ⟨x, x1, x2, x3, x4⟩ := ih e cs elems[i].1 elems[i].2 (hch e hc) htr hwi
            refine ⟨x, cs, fun _ => ⟨hcs, x1, x2, cells_val x3, fun n hn => ?_⟩⟩
            rw [List.getElem?_map, List.getElem?_map, List.getElem?_eq_getElem hie'] at hn
            cases hn
            exact x4
          · exact ⟨.bot, [], fun h => (hi h).elim⟩
        obtain ⟨f, hf⟩ := Classical.axiomOfChoice each
        obtain ⟨g, hg⟩ := Classical.axiomOfChoice hf
        have hlen : ((List.range len).map f).length = len := by simp
        refine ⟨.sl false esz ((List.range len).map f), .slice _ hk ?_ fun x hx => ?_, ?_, fun _ => ⟨_, rfl, rfl⟩, Nat.le_trans (Nat.succ_le_succ (bulks_le _ ((elems.map (·.1)).map B) (by simp; omega) fun j x n hx hn => ?_)) (hB.slice _ _)⟩
        · rw [hlen]
          refine Nat.le_trans (Nat.mul_le_mul_right _ ?_) hw.1
          rw [← hel]; exact Nat.le_add_right _ _
        · obtain ⟨i, hi, rfl⟩ := List.mem_map.1 hx
          exact (hg i (List.mem_range.1 hi)).2.1
        · show AR _ _ _ (.slice (some a) len cap)
          by_cases h0 : len = 0
          · subst h0
            exact .slnil false esz (some a) cap
          · obtain ⟨b, o, sp⟩ := a
            have hcellat : ∀ i j c, i < len → (g i)[j]? = some c → w.cell? ⟨b, o + i * esz + j, none⟩ = some c ∧ (i = 0 → j = 0 → sp = none) := by
              intro i j c hi hj
              obtain ⟨h1, _⟩ := hg i hi
              obtain ⟨_, h3, h4⟩ := World.cells?_some h1
              have hjl := (List.getElem?_eq_some_iff.1 hj).1
              have := h4 j (by omega)
              rw [hj] at this
              by_cases hz : i * esz = 0
              · by_cases hj0 : j = 0
                · subst hj0
                  have e1 : (⟨b, o, sp⟩ : Addr).add (i * esz) = ⟨b, o, sp⟩ := by unfold Addr.add; rw [if_pos hz]
                  have e2 : (⟨b, o, sp⟩ : Addr).add 0 = ⟨b, o, sp⟩ := by unfold Addr.add; rw [if_pos rfl]
                  rw [e1, e2] at this
                  have hsp : sp = none := by
                    unfold World.cell? at this
                    simp only at this
                    split at this
                    · split at this
                      · cases this
                      · rename_i hs
                        cases sp with
                        | none => rfl
                        | some x => simp at hs
                    · cases this
                  subst hsp
                  rw [hz]
                  exact ⟨this, fun _ _ => rfl⟩
                · have e1 : (⟨b, o, sp⟩ : Addr).add (i * esz) = ⟨b, o, sp⟩ := by unfold Addr.add; rw [if_pos hz]
                  have e2 : (⟨b, o, sp⟩ : Addr).add j = ⟨b, o + j, none⟩ := by unfold Addr.add; rw [if_neg hj0]
                  rw [e1, e2] at this
                  rw [hz]
                  exact ⟨this, fun _ e => (hj0 e).elim⟩
              · have e1 : (⟨b, o, sp⟩ : Addr).add (i * esz) = ⟨b, o + i * esz, none⟩ := by unfold Addr.add; rw [if_neg hz]
                rw [e1, Addr.add_lit] at this
                refine ⟨this, fun e _ => ?_⟩
                subst e
                simp at hz
            have hsp : sp = none := by
              obtain ⟨h1, _, _, h4, _⟩ := hg 0 (by omega)
              obtain ⟨_, h3, _⟩ := World.cells?_some h1
              have hl : 0 < (g 0).length := by omega
              exact (hcellat 0 0 _ (by omega) (List.getElem?_eq_getElem hl)).2 rfl rfl
            subst hsp
            refine .sl false esz _ b o len cap hlen.symm hlc (fun i => valOf (ti e).kind.isAgg (g i)) (fun i q hq => ?_) (fun i hi => ?_) (fun i j c hi hj => ?_)
            · have hil : i < len := by
                have := (List.getElem?_eq_some_iff.1 hq).1
                rwa [hlen] at this
              rw [List.getElem?_map, List.getElem?_range hil] at hq
              simp only [Option.map_some, Option.some.injEq] at hq
              subst hq
              exact (hg i hil).2.2.1
            · rw [hlen] at hi
              obtain ⟨h1, _, _, h4, _⟩ := hg i hi
              obtain ⟨_, h3, _⟩ := World.cells?_some h1
              rw [← Array.length_toList, h4, h3]
            · rw [hlen] at hi
              obtain ⟨h1, _, _, h4, _⟩ := hg i hi
              rw [← Array.getElem?_toList, h4] at hj
              exact (hcellat i j c hi hj).1
        · have hj : j < len := by
            have := (List.getElem?_eq_some_iff.1 hx).1
            simpa using this
          rw [List.getElem?_map, List.getElem?_range hj] at hx
          cases hx
          exact (hg j hj).2.2.2.2 n hn
    | arr n e esz =>
      rw [hk] at hc
      simp only [Bool.and_eq_true, decide_eq_true_eq] at hc
      have hfT := hfit t (by rw [hk]; rfl)
      have hf := hfT.kind
      rw [hk] at hf
      obtain ⟨hu, ie, hie, hsz, he0⟩ := hf
      have hcell : P.cellsOf e = esz := by simp [Program.cellsOf, hie, hsz]
      obtain ⟨xs, m, hm, hx, hl, hxl, hget⟩ := DataW.trod_array hu h
      obtain rfl : fuel = m := by omega
      cases hx
      simp only [DataW.weights, hu] at hw
      rw [cellsOf_fit hfT, hc.1.2] at hl
      have each : ∀ i, ∃ x, i < n → Ty ti e x ∧ AR (fun _ => True) (allCells w) x (valOf (ti e).kind.isAgg ((cs.drop (i * esz)).take esz)) ∧ (valOf (ti e).kind.isAgg ((cs.drop (i * esz)).take esz)).cells.toList = (cs.drop (i * esz)).take esz ∧ ∀ n, ((xs.map (·.1)).map B)[i]? = some n → x.bulk ≤ n := by
        intro i
        by_cases hi : i < n
        · have hg := hget i hi
          rw [hcell] at hg
          have hie' : i < xs.length := by omega
          rw [List.getElem?_eq_getElem hie'] at hg
          have hwi := weightsAll_mem (P := P) (e := e) (xs.map (·.1)) xs[i].1 (List.mem_map.2 ⟨xs[i], List.getElem_mem hie', rfl⟩) hw
          obtain ⟨x, x1, x2, x3, x4⟩ := ih e _ xs[i].1 xs[i].2 (hch e hc.1.1) hg hwi
          refine ⟨x, fun _ => ⟨x1, x2, cells_val x3, fun n hn => ?_⟩⟩
          rw [List.getElem?_map, List.getElem?_map, List.getElem?_eq_getElem hie'] at hn
          cases hn
          exact x4
        · exact ⟨.bot, fun h => (hi h).elim⟩
      obtain ⟨f, hf⟩ := Classical.axiomOfChoice each
      have hcs : cs = ((List.range n).map fun i => valOf (ti e).kind.isAgg ((cs.drop (i * esz)).take esz)).flatMap fun v => v.cells.toList := by
        have cut : ∀ (n : Nat) (cs : List Value), cs.length = n * esz → cs = ((List.range n).map fun i => (cs.drop (i * esz)).take esz).flatten := by
          intro n
          induction n with
          | zero => intro cs hl; simpa using hl
          | succ n ihn =>
            intro cs hl
            rw [Nat.add_mul, Nat.one_mul] at hl
            have h1 := ihn (cs.take (n * esz)) (by rw [List.length_take]; omega)
            rw [List.range_succ, List.map_append, List.flatten_append]
            conv => lhs; rw [← List.take_append_drop (n * esz) cs]
            congr 1
            · conv => lhs; rw [h1]
              congr 1
              apply List.map_congr_left
              intro i hi
              have hi := List.mem_range.1 hi
              have : (i + 1) * esz ≤ n * esz := Nat.mul_le_mul_right _ hi
              rw [Nat.add_mul, Nat.one_mul] at this
              rw [List.drop_take, List.take_take, Nat.min_eq_left (by omega)]
            · simp only [List.map_cons, List.map_nil, List.flatten_cons, List.flatten_nil, List.append_nil]
              rw [List.take_of_length_le (by rw [List.length_drop]; omega)]
        conv => lhs; rw [cut n cs hl]
        rw [List.flatMap_def, List.map_map]
        congr 1
        apply List.map_congr_left
        intro i hi
        exact (hf i (List.mem_range.1 hi)).2.2.1.symm
      obtain ⟨q1, q2, q3⟩ := agg_parts (M := fun _ => True) (I := allCells w) ((List.range n).map f) _ cs (by simp) hcs (fun j x v hx hv => by
        have hj : j < n := by
          have := (List.getElem?_eq_some_iff.1 hx).1
          simpa using this
        rw [List.getElem?_map, List.getElem?_range hj] at hx hv
        cases hx
        cases hv
        exact (hf j hj).2.1)
      refine ⟨_, .arr ((List.range n).map f) hk (by simp) fun x hx => ?_, ?_, fun e => (by cases e), Nat.le_trans (Nat.succ_le_succ (Nat.le_trans (bulks_flat _) (bulks_le _ ((xs.map (·.1)).map B) (by simp; omega) fun j x m hx hm => ?_))) (hB.agg _)⟩
      · obtain ⟨i, hi, rfl⟩ := List.mem_map.1 hx
        exact (hf i (List.mem_range.1 hi)).1
      · exact .agg _ _ (by rw [q1]; simp) (fun j v hv => q2 j v (by simpa using hv)) fun j c v hc hv => q3 j c v hc (by simpa using hv)
      · have hj : j < n := by
          have := (List.getElem?_eq_some_iff.1 hx).1
          simpa using this
        rw [List.getElem?_map, List.getElem?_range hj] at hx
        cases hx
        exact (hf j hj).2.2.2 m hm
    | struct fs =>
      rw [hk] at hc
      simp only [Bool.and_eq_true, List.all_eq_true, decide_eq_true_eq] at hc
      have hfT := hfit t (by rw [hk]; rfl)
      have hf := hfT.kind
      rw [hk] at hf
      obtain ⟨A, hu, hAl, hA⟩ := hf
      obtain ⟨xs, m, hm, hx, hl, hxl, hget⟩ := DataW.trod_struct hu h
      obtain rfl : fuel = m := by omega
      cases hx
      simp only [DataW.weights, hu] at hw
      rw [cellsOf_fit hfT] at hl
      obtain ⟨cut1, cut2⟩ := contig_cut fs 0 (ti t).size cs hc.2 (by omega) (by omega)
      simp only [Nat.sub_zero] at cut1 cut2
      have each : ∀ j : Nat, ∃ x, ∀ (off sz : Nat) (ft : TypeId), fs[j]? = some (off, sz, ft) → Ty ti ft x ∧ AR (fun _ => True) (allCells w) x (valOf (ti ft).kind.isAgg ((cs.drop off).take sz)) ∧ (valOf (ti ft).kind.isAgg ((cs.drop off).take sz)).cells.toList = (cs.drop off).take sz ∧ ∀ n, ((xs.map (·.1)).map B)[j]? = some n → x.bulk ≤ n := by
        intro j
        cases hj : fs[j]? with
        | none => exact ⟨.bot, fun off sz ft e => by cases e⟩
        | some p =>
          obtain ⟨off, sz, ft⟩ := p
          obtain ⟨fd, i, f1, f2, f3, f4, f5, f6⟩ := hA j off sz ft hj
          have hg := hget j fd f1
          have hcell : P.cellsOf fd.type = sz := by rw [f3]; simp [Program.cellsOf, f4, f5]
          rw [f2, f3] at hg
          rw [f3] at hcell
          rw [hcell] at hg
          have hjl : j < xs.length := by
            have := (List.getElem?_eq_some_iff.1 hj).1
            omega
          rw [List.getElem?_eq_getElem hjl] at hg
          have hwj := weightsEach_get (P := P) (A.toList.map (·.type)) (xs.map (·.1)) j ft xs[j].1 (by rw [List.getElem?_map, Array.getElem?_toList, f1, Option.map_some, f3]) (by rw [List.getElem?_map, List.getElem?_eq_getElem hjl]; rfl) hw
          obtain ⟨x, x1, x2, x3, x4⟩ := ih ft _ xs[j].1 xs[j].2 (hch ft (hc.1 _ (List.mem_of_getElem? hj)).1) hg hwj
          refine ⟨x, fun off' sz' ft' e => ?_⟩
          cases e
          refine ⟨x1, x2, cells_val x3, fun n hn => ?_⟩
          rw [List.getElem?_map, List.getElem?_map, List.getElem?_eq_getElem hjl] at hn
          cases hn
          exact x4
      obtain ⟨f, hf⟩ := Classical.axiomOfChoice each
      have hcs : cs = (fs.map fun p => valOf (ti p.2.2).kind.isAgg ((cs.drop p.1).take p.2.1)).flatMap fun v => v.cells.toList := by
        conv => lhs; rw [cut1]
        rw [List.flatMap_def, List.map_map]
        congr 1
        apply List.map_congr_left
        intro p hp
        obtain ⟨j, hj⟩ := List.getElem?_of_mem hp
        exact (hf j p.1 p.2.1 p.2.2 hj).2.2.1.symm
      obtain ⟨q1, q2, q3⟩ := agg_parts (M := fun _ => True) (I := allCells w) ((List.range fs.length).map f) _ cs (by simp) hcs (fun j x v hx hv => by
        have hj : j < fs.length := by
          have := (List.getElem?_eq_some_iff.1 hx).1
          simpa using this
        rw [List.getElem?_map, List.getElem?_range hj] at hx
        rw [List.getElem?_map, List.getElem?_eq_getElem hj] at hv
        cases hx
        cases hv
        exact (hf j _ _ _ (List.getElem?_eq_getElem hj)).2.1)
      refine ⟨_, .struct ((List.range fs.length).map f) hk (by simp) fun j off sz ft x hj hx => ?_, ?_, fun e => (by cases e), Nat.le_trans (Nat.succ_le_succ (Nat.le_trans (bulks_flat _) (bulks_le _ ((xs.map (·.1)).map B) (by simp; omega) fun j x n hx hn => ?_))) (hB.agg _)⟩
      · have hjl := (List.getElem?_eq_some_iff.1 hj).1
        rw [List.getElem?_map, List.getElem?_range hjl] at hx
        cases hx
        exact (hf j off sz ft hj).1
      · exact .agg _ _ (by rw [q1]; simp) (fun j v hv => q2 j v (by simpa using hv)) fun j c v hc hv => q3 j c v hc (by simpa using hv)
      · have hjl : j < fs.length := by
          have := (List.getElem?_eq_some_iff.1 hx).1
          simpa using this
        rw [List.getElem?_map, List.getElem?_range hjl] at hx
        cases hx
        exact (hf j _ _ _ (List.getElem?_eq_getElem hjl)).2.2.2 n hn
theorem trod_ty (hfit : ∀ T, (ti T).kind.known = true → Fit P ti T) (hS : closedB ti S = true) (fuel : Nat) (t : TypeId) (cs : List Value) (d : DataW H) (ps : List MemPlace) (ht : t ∈ S) (h : DataW.trod enc P w base spare held fuel t cs = some (d, ps))
    (hw : (d.weights P t).all (· ≤ reachBytes) = true) : ∃ x, Ty ti t x ∧ AR (fun _ => True) (allCells w) x (valOf (ti t).kind.isAgg cs) ∧ ((ti t).kind.isAgg = false → ∃ v, cs = [v] ∧ v.oneCell' = true) :=
  let ⟨x, h1, h2, h3, _⟩ := trod_ty2 bulkD_ok hfit hS fuel t cs d ps ht h hw
  ⟨x, h1, h2, h3⟩

end
end Go.Proofs.Ytjfnmlheehbojaa.VA
