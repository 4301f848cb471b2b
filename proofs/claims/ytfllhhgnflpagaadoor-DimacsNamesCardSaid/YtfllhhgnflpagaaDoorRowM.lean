/-
  A row of bytes of the call's own, told by its cells (marks behind its last cell do no harm): append to it.
-/
import Derived.Test.YtfllhhgnflpagaaDoorApp
import Derived.Deep.AppendSrc
import Derived.Deep.Upon
import Derived.OwnWalk
import Derived.OwnWalkIn
import Derived.Laws.IdiomStrings
import Derived.Lib.UnsafeStr
namespace Go.Proofs.YtfllhhgnflpagaaDoor
set_option linter.unusedSimpArgs false
set_option linter.unusedVariables false
open Go.RowKit
attribute [local go_sem] Oper.semAt_some

/-- v holds the one-cell elements xs, in a block from B on, with room behind them that may be written. -/
def RowM (B : Nat) (w : World) (v : Value) (n : Nat) (xs : List Value) : Prop :=
  ∃ g cap, v = .slice (some ⟨g, 0, none⟩) n cap ∧ B ≤ g ∧ g < w.heap.size ∧ n ≤ cap ∧ cap ≤ maxLen ∧ xs.length = n ∧
    (∀ j (h : j < xs.length), w.cell? ⟨g, j, none⟩ = some xs[j]) ∧ (∀ j, j < cap → (w.cell? ⟨g, j, none⟩).isSome = true ∧ w.frozen? ⟨g, j, none⟩ = false)
theorem RowM.slice {B n : Nat} {w : World} {v : Value} {xs : List Value} (h : RowM B w v n xs) : ∃ p c, v = .slice p n c := let ⟨_, _, e, _⟩ := h; ⟨_, _, e⟩
theorem RowM.lt {B n : Nat} {w : World} {v : Value} {xs : List Value} (h : RowM B w v n xs) : ∀ k, v.ownBlock = some k → B ≤ k ∧ k < w.heap.size := by
  obtain ⟨g, cap, rfl, h1, h2, _⟩ := h
  intro k hk; cases hk; exact ⟨h1, h2⟩
theorem RowM.keep {B n : Nat} {w w' : World} {v : Value} {xs : List Value} (h : RowM B w v n xs) (hs : w.heap.size ≤ w'.heap.size) (hf : ∀ k, v.ownBlock = some k → w'.heap[k]? = w.heap[k]?) : RowM B w' v n xs := by
  obtain ⟨g, cap, rfl, h1, h2, h3, h4, h5, h6, h7⟩ := h
  have e := hf g rfl
  exact ⟨g, cap, rfl, h1, by omega, h3, h4, h5, fun j hj => (World.cell?_of_block (a := ⟨g, j, none⟩) e).trans (h6 j hj), fun j hj => ⟨by rw [World.cell?_of_block (a := ⟨g, j, none⟩) e]; exact (h7 j hj).1, (World.frozen?_of_block (a := ⟨g, j, none⟩) e).trans (h7 j hj).2⟩⟩
theorem RowM.below {B n : Nat} {w w' : World} {v : Value} {xs : List Value} (h : RowM B w v n xs) (hb : Below w.heap.size w w') : RowM B w' v n xs := h.keep hb.size fun k hk => hb.block k (h.lt k hk).2
theorem RowM.row {B n : Nat} {w : World} {p : Option Addr} {c : Nat} {xs : List Value} (h : RowM B w (.slice p n c) n xs) : ∃ g, p = some ⟨g, 0, none⟩ ∧ RowR (· = g) w (some ⟨g, 0, none⟩) xs := by
  obtain ⟨g, cap, e, h1, h2, h3, h4, h5, h6, h7⟩ := h
  cases e
  exact ⟨g, rfl, .inr ⟨g, 0, rfl, rfl, fun j hj => by rw [Nat.zero_add]; exact h6 j hj⟩⟩
/-- One new block that holds the elements. -/
theorem RowM.new {B : Nat} {w w' : World} {xs rest : List Value} {e : TypeId} {fz : Nat × Nat} (hB : B ≤ w.heap.size) (hh : w'.heap[w.heap.size]? = some (.cells (xs ++ rest).toArray e fz)) (hfz : fz = (0, 0) ∨ (xs ++ rest).length ≤ fz.1) (hm : (xs ++ rest).length ≤ maxLen) :
    RowM B w' (.slice (some ⟨w.heap.size, 0, none⟩) xs.length (xs ++ rest).length) xs.length xs := by
  refine ⟨w.heap.size, _, rfl, hB, (Array.getElem?_eq_some_iff.1 hh).1, by simp, hm, rfl, fun j hj => ?_, fun j hj => ⟨?_, ?_⟩⟩
  · simp only [World.cell?, hh]
    rw [List.getElem?_toArray, List.getElem?_append_left hj, List.getElem?_eq_getElem hj]; rfl
  · simp only [World.cell?, hh]
    rw [List.getElem?_toArray, List.getElem?_eq_getElem hj]; rfl
  · simp only [World.frozen?, hh]
    rcases hfz with rfl | h
    · simp
    · rw [Bool.and_eq_false_iff]; left; rw [decide_eq_false_iff_not]; omega

section
variable {P : Program}
theorem grownBy_setCells (w : World) (g o : Nat) (vs : List Value) : w.grownBy (w.setCells g o vs) (some g) := by
  induction vs generalizing o w with
  | nil => exact World.grownBy.refl w _
  | cons v vs ih =>
    show w.grownBy ((w.setCell ⟨g, o, none⟩ v).setCells g (o + 1) vs) (some g)
    refine World.grownBy.trans (b := w.setCell ⟨g, o, none⟩ v) ⟨rfl, rfl, rfl, by simp [World.setCell], fun k hk hne => Below.heap_setCell _ _ _ _ (fun e => hne (congrArg some e))⟩ (ih _ _)

/-- append. -/
theorem run_appM (B : Nat) (t tx ty e : TypeId) (z : Value) (ht : P.underlying t = some (.slice e)) (hinfo : (P.info? e).map (fun i => (i.zero, i.size, i.bytes)) = some (some z, 1, 1)) (hzs : z.cells.size = 1)
    {w : World} {v : Value} {n : Nat} {xs : List Value} (h : RowM B w v n xs) (hB : B ≤ w.heap.size) (x : Value) (m : Nat) (news : List Value) (hs : Src P 1 tx x m news w) (h63 : n + m ≤ 140737488355328) :
    ∃ v' w', (Builtin.append_ #[t, tx] ty #[v, x]).run P w = .ok v' w' ∧ RowM B w' v' (n + m) (xs ++ news) ∧ w.grownBy w' v.ownBlock ∧ (v'.ownBlock = v.ownBlock ∨ v'.ownBlock = some w.heap.size) := by
  obtain ⟨i, hi, hz, hs1, hby⟩ := info_parts hinfo
  obtain ⟨g, cap, rfl, h1, h2, h3, h4, h5, h6, h7⟩ := h
  have hml : news.length = m := by have := hs.newsLen; omega
  have hmax : n + m ≤ maxLen := by unfold maxLen; omega
  by_cases hroom : n + m ≤ cap
  · have hcell : ∀ j, j < news.length → (w.cell? ⟨g, 0 + n * i.size + j, none⟩).isSome = true ∧ w.frozen? ⟨g, 0 + n * i.size + j, none⟩ = false := fun j hj => by
      rw [hs1, Nat.zero_add, Nat.mul_one]; exact h7 (n + j) (by omega)
    have hr := run_append_room_src (P := P) w t tx ty e i ht hi g 0 n cap x m news (by rw [hs1]; exact hs) hroom (fun j hj => (hcell j hj).1) (fun j hj => (hcell j hj).2)
    rw [hs1, Nat.zero_add, Nat.mul_one] at hr
    refine ⟨_, _, hr, ⟨g, cap, rfl, h1, ?_, hroom, h4, by rw [List.length_append, h5, hml], fun j hj => ?_, fun j hj => ⟨?_, ?_⟩⟩, grownBy_setCells _ _ _ _, .inl rfl⟩
    · exact Nat.lt_of_lt_of_le h2 (grownBy_setCells w g n news).size
    · by_cases hjn : j < xs.length
      · rw [World.cell?_setCells_out g news n w ⟨g, j, none⟩ (fun _ _ => .inl (by show j < n; omega)), h6 j hjn, List.getElem_append_left hjn]
      · have hj2 : j - n < news.length := by rw [List.length_append] at hj; omega
        have := World.cell?_setCells_in g news n w (fun k hk => (h7 (n + k) (by omega)).1) (j - n) hj2
        rw [show n + (j - n) = j by omega] at this
        rw [this, List.getElem_append_right (by omega)]
        simp [h5]
    · by_cases hin : n ≤ j ∧ j < n + news.length
      · have := World.cell?_setCells_in g news n w (fun k hk => (h7 (n + k) (by omega)).1) (j - n) (by omega)
        rw [show n + (j - n) = j by omega] at this
        rw [this]; rfl
      · rw [World.cell?_setCells_out g news n w ⟨g, j, none⟩ (fun _ _ => by show j < n ∨ n + news.length ≤ j; omega)]
        exact (h7 j hj).1
    · rw [World.frozen?_setCells]; exact (h7 j hj).2
  · have hold : (Builtin.firstCells i.size n (.slice (some ⟨g, 0, none⟩) n cap)).run P w.drew = .ok xs.toArray w.drew := by
      rw [hs1]
      refine run_firstCells_some w.drew 1 n ⟨g, 0, none⟩ n cap xs (by omega) (fun j u hu => ?_)
      obtain ⟨hj, rfl⟩ := List.getElem?_eq_some_iff.1 hu
      have hadd : (⟨g, 0, none⟩ : Addr).add j = ⟨g, j, none⟩ := by unfold Addr.add; split <;> simp_all
      rw [hadd]
      exact h6 j hj
    have hns : Builtin.nextslicecap (n + m) cap * i.bytes ≤ 281474976710656 := by
      have := nextslicecap_le (need := n + m) (old := cap) (by omega)
      rw [hby]; omega
    have hr := run_append_grow_src (P := P) w t tx ty e i z ht hi hz (some ⟨g, 0, none⟩) n cap xs hold x m news (by rw [hs1]; exact hs) (by omega) (by omega) hns
    obtain ⟨q, hq⟩ : ∃ q, grownCap w (n + m) cap e = q := ⟨_, rfl⟩
    have hq1 : n + m ≤ q := by rw [← hq]; exact grownCap_ge w (n + m) cap e
    have hq2 : q ≤ maxLen := by rw [← hq]; exact grownCap_le_maxLen w (n + m) cap e hmax
    rw [hq] at hr
    have hzc : ∀ k, (Builtin.zeroCells z.cells k).size = k := fun k => by rw [size_zeroCells, hzs, Nat.mul_one]
    have hlen : ((xs ++ news) ++ (Builtin.zeroCells z.cells (q - (n + m))).toList).length = q := by
      simp [hzc, h5, hml]; omega
    have hnew := RowM.new (B := B) (w := w) (w' := w.drew.alloc (.cells ((xs ++ news).toArray ++ Builtin.zeroCells z.cells (q - (n + m))) e)) (xs := xs ++ news) (rest := (Builtin.zeroCells z.cells (q - (n + m))).toList) (e := e) (fz := (0, 0)) hB
      (by rw [heap_al]; exact (if_pos rfl).trans (by congr 2; apply Array.ext'; simp)) (.inl rfl) (by rw [hlen]; exact hq2)
    rw [hlen, show (xs ++ news).length = n + m by rw [List.length_append, h5, hml]] at hnew
    exact ⟨_, _, hr, hnew, ⟨rfl, rfl, rfl, by simp, fun k hk _ => by show (w.drew.alloc _).heap[k]? = _; rw [heap_al, if_neg (by show k ≠ w.heap.size; omega)]; rfl⟩, .inr rfl⟩
theorem wpList_appM {w : World} {ops : Array Oper} {rest : List Oper} {o : Oper} {a : Act} {Q : Exit → Act → World → Prop} (hgd : o.guard = none) (s x : Operand) (t tx : TypeId)
    (ho : o.op = .call { callee := .builtin .append, args := #[s, x], argTypes := #[t, tx] }) (B : Nat) (e : TypeId) (z : Value) (ht : P.underlying t = some (.slice e)) (hinfo : (P.info? e).map (fun i => (i.zero, i.size, i.bytes)) = some (some z, 1, 1)) (hzs : z.cells.size = 1)
    (v : Value) (n : Nat) (xs : List Value) (hs : a.eval s = v) (h : RowM B w v n xs) (hB : B ≤ w.heap.size) (xv : Value) (m : Nat) (news : List Value) (hx : a.eval x = xv) (hsrc : Src P 1 tx xv m news w) (h63 : n + m ≤ 140737488355328)
    (hK : ∀ v' w', RowM B w' v' (n + m) (xs ++ news) → w.grownBy w' v.ownBlock → (v'.ownBlock = v.ownBlock ∨ v'.ownBlock = some w.heap.size) → wpList P ops Q rest (a.put o.dst v') w') : wpList P ops Q (o :: rest) a w := by
  refine wpList_plain hgd fun K hK' => ?_
  obtain ⟨v', w', hrun, h1, h2, h3⟩ := run_appM (P := P) B t tx o.type e z ht hinfo hzs h hB xv m news hsrc h63
  unfold Oper.wp
  simp [execOp, ho, resolve, invoke, builtin, hs, hx, hrun, Result.andThen]
  exact hK' _ _ (hK v' w' h1 h2 h3)
theorem wpIn_appM {F : Fence} {n0 : Nat} {w : World} (hF : ∀ f, F.fn f) {o : Oper} {a : Act} {K : Act → World → Prop} {Q : Exit → Act → World → Prop} (s x : Operand) (t tx : TypeId)
    (ho : o.op = .call { callee := .builtin .append, args := #[s, x], argTypes := #[t, tx] }) (B : Nat) (e : TypeId) (z : Value) (ht : P.underlying t = some (.slice e)) (hinfo : (P.info? e).map (fun i => (i.zero, i.size, i.bytes)) = some (some z, 1, 1)) (hzs : z.cells.size = 1)
    (v : Value) (n : Nat) (xs : List Value) (hs : a.eval s = v) (h : RowM B w v n xs) (hB : B ≤ w.heap.size) (xv : Value) (m : Nat) (news : List Value) (hx : a.eval x = xv) (hsrc : Src P 1 tx xv m news w) (h63 : n + m ≤ 140737488355328)
    (hK : ∀ v' w', RowM B w' v' (n + m) (xs ++ news) → w.grownBy w' v.ownBlock → (v'.ownBlock = v.ownBlock ∨ v'.ownBlock = some w.heap.size) → K (a.put o.dst v') w') : o.wpIn F n0 P a w K Q := by
  obtain ⟨v', w', hrun, h1, h2, h3⟩ := run_appM (P := P) B t tx o.type e z ht hinfo hzs h hB xv m news hsrc h63
  refine ⟨fun f _ => hF f, ?_⟩
  rw [Oper.semAt_eq _ _ _ (fun c e => by rw [ho] at e; cases e)]
  unfold execOp
  simp only [ho, resolve, invoke, builtin, Sem.run_bind, Sem.run_pure, Result.andThen_ok, List.map_toArray, List.map_cons, List.map_nil, hs, hx, hrun, Oper.uponIn]
  exact hK v' w' h1 h2 h3
theorem src_row {w : World} {R : Nat → Prop} {b off m c : Nat} {tx e' : TypeId} (hk : P.underlying tx = some (.slice e')) {news : List Value} (hr : RowR R w (some ⟨b, off, none⟩) news) (hm : news.length = m) (h1 : ∀ u ∈ news, u.oneCell' = true) : Src P 1 tx (.slice (some ⟨b, off, none⟩) m c) m news w := by
  refine Src.ofSlice w hk ⟨b, off, none⟩ m c news (by omega) (fun j u hu => ?_) h1
  obtain ⟨hj, rfl⟩ := List.getElem?_eq_some_iff.1 hu
  obtain ⟨b', off', e, _, hc⟩ := hr.at j hj
  cases e
  have hadd : (⟨b, off, none⟩ : Addr).add j = ⟨b, off + j, none⟩ := by unfold Addr.add; split <;> simp_all
  rw [hadd]
  exact hc j hj
theorem src_str {w : World} {tx : TypeId} (hk : P.underlying tx = some .string) (l : List UInt8) : Src P 1 tx (.string ⟨l.toArray⟩) l.length (Lib.byteCells l) w := by
  have := Src.ofString (P := P) w hk ⟨l.toArray⟩
  rw [show (⟨l.toArray⟩ : ByteArray).size = l.length by simp [ByteArray.size]] at this
  exact this
theorem RowM.text {B : Nat} {w : World} {p : Option Addr} {c : Nat} {out : List UInt8} {t ts e : TypeId} (h : RowM B w (.slice p out.length c) out.length (Lib.byteCells out)) (ht : P.underlying t = some (.slice e)) (he : P.underlying e = some (.int .u8)) (hs : P.underlying ts = some .string) :
    (convert t ts (.slice p out.length c)).run P w = .ok (.string ⟨out.toArray⟩) w := by
  obtain ⟨g, cap, e1, h1, h2, h3, h4, h5, h6, h7⟩ := h
  cases e1
  refine run_convert_bytes_back (P := P) w t ts e ⟨g, 0, none⟩ _ out ht he hs fun j hj => ?_
  have hadd : (⟨g, 0, none⟩ : Addr).add j = ⟨g, j, none⟩ := by unfold Addr.add; split <;> simp_all
  rw [hadd, h6 j (by simpa [Lib.byteCells] using hj)]
  simp [Lib.byteCells]
end
end Go.Proofs.YtfllhhgnflpagaaDoor
