/-
 Programs: the reference's model of the check, and that it is the same (plain).
 Programs: functions that call themselves: both searches find them (plain).
 The search for a function; whether a function calls itself.
-/
import Derived.Test.YtoofbgoeipijcaaDoorUSPrP
import Derived.Test.YtoofbgoeipijcaaDoorUB10
namespace Go.Proofs.YtoofbgoeipijcaaDoor
set_option linter.unusedSimpArgs false
set_option linter.unusedVariables false
open Go.RowKit Go.Shelf

/-! ### names -/
/-! ### arrays -/
/-! ### sites and instructions -/
/-! ### the functions -/
/-! ### what instructions refer to -/
end Go.Proofs.YtoofbgoeipijcaaDoor

namespace Go.Proofs.YtoofbgoeipijcaaDoor
set_option linter.unusedSimpArgs false
set_option linter.unusedVariables false
open Go.RowKit Go.Shelf

theorem nodup_le {α : Type} [DecidableEq α] : ∀ (l m : List α), l.Nodup → (∀ x ∈ l, x ∈ m) → l.length ≤ m.length
 | [], m, _, _ => Nat.zero_le _
 | x :: r, m, hn, hs => by
  have hx := hs x (List.mem_cons_self ..)
  have hn' := List.nodup_cons.1 hn
  have h := nodup_le r (m.erase x) hn'.2 fun y hy => by
   have hne : y ≠ x := fun e => hn'.1 (e ▸ hy)
   exact (List.mem_erase_of_ne hne).2 (hs y (List.mem_cons_of_mem _ hy))
  rw [List.length_erase_of_mem hx] at h
  have : 0 < m.length := List.length_pos_of_mem hx
  simp only [List.length_cons]
  omega

def namesP (p : Pg) : List Bs := p.funcs.map Fu.nm
/-- All that is called is there. -/
def Closed (p : Pg) : Prop := ∀ a, ∀ b ∈ callsM (codeOf p a), b ∈ namesP p

theorem push_spec (name : Bs) : ∀ (gs seen todo : List Bs), seen.Nodup →
  (pushM name gs seen todo).1 = true ∧ name ∈ gs ∨
  (pushM name gs seen todo).1 = false ∧ name ∉ gs ∧ ∃ new : List Bs, (pushM name gs seen todo).2.1 = seen ++ new ∧ (pushM name gs seen todo).2.2 = todo ++ new ∧ (seen ++ new).Nodup ∧ (∀ x ∈ new, x ∈ gs) ∧ ∀ x ∈ gs, x ∈ seen ++ new
 | [], seen, todo, hn => .inr ⟨rfl, by simp, [], by simp [pushM], by simp [pushM], by simpa using hn, by simp, by simp⟩
 | g :: r, seen, todo, hn => by
  unfold pushM
  by_cases c1 : g = name
  ·left; rw [if_pos c1]; exact ⟨rfl, by rw [c1]; exact List.mem_cons_self ..⟩
  rw [if_neg c1]
  by_cases c2 : seen.contains g = true
  ·rw [if_pos c2]
   rcases push_spec name r seen todo hn with ⟨h1, h2⟩ | ⟨h1, h2, new, h3, h4, h5, h6, h7⟩
   ·exact .inl ⟨h1, List.mem_cons_of_mem _ h2⟩
   ·refine .inr ⟨h1, fun h => ?_, new, h3, h4, h5, fun x hx => List.mem_cons_of_mem _ (h6 x hx), fun x hx => ?_⟩
    ·rcases List.mem_cons.1 h with h | h
     ·exact c1 h.symm
     ·exact h2 h
    ·rcases List.mem_cons.1 hx with h | h
     ·rw [h]; exact List.mem_append_left _ (List.contains_iff_mem.1 c2)
     ·exact h7 x h
  ·rw [if_neg c2]
   have hnm : g ∉ seen := fun h => c2 (List.contains_iff_mem.2 h)
   have hn2 : (seen ++ [g]).Nodup := by
    rw [List.nodup_append]
    exact ⟨hn, by simp, fun a ha b hb e => by rw [List.mem_singleton] at hb; rw [e, hb] at ha; exact hnm ha⟩
   rcases push_spec name r (seen ++ [g]) (todo ++ [g]) hn2 with ⟨h1, h2⟩ | ⟨h1, h2, new, h3, h4, h5, h6, h7⟩
   ·exact .inl ⟨h1, List.mem_cons_of_mem _ h2⟩
   ·refine .inr ⟨h1, fun h => ?_, g :: new, by rw [h3]; simp, by rw [h4]; simp, by simpa using h5, fun x hx => ?_, fun x hx => ?_⟩
    ·rcases List.mem_cons.1 h with h | h
     ·exact c1 h.symm
     ·exact h2 h
    ·rcases List.mem_cons.1 hx with h | h
     ·rw [h]; exact List.mem_cons_self ..
     ·exact List.mem_cons_of_mem _ (h6 x h)
    ·rcases List.mem_cons.1 hx with h | h
     ·rw [h]; simp
     ·have := h7 x h; simpa using this

/-! ### the reference's search -/
end Go.Proofs.YtoofbgoeipijcaaDoor

namespace Go.Proofs.YtoofbgoeipijcaaDoor
set_option linter.unusedSimpArgs false
set_option linter.unusedVariables false
open Go.RowKit Go.Shelf
attribute [local go_sem] Oper.semAt_some

set_option maxRecDepth 100000 in
theorem clos_any (f : Fu) (s : Bs) (pp pc : Option Addr) (cp cc b : Nat) (w : World) (hb : w.cell? ⟨b, 0, none⟩ = some (.string ⟨s.toArray⟩)) :
  Calls Tryd.prog 86 #[.agg #[.string ⟨f.nm.toArray⟩, .slice pp f.params.length cp, .slice pc f.code.length cc, .int .i64 f.pos.1, .int .i64 f.pos.2], .pointer (some ⟨b, 0, none⟩)] w fun e w' => e = .returned (.bool (decide (f.nm = s))) ∧ Below w.heap.size w w' := by
 have hbo : ∀ o, (w.alloc o).cell? ⟨b, 0, none⟩ = some (.string ⟨s.toArray⟩) := fun o => (((Below.refl w.heap.size w).alloc (Nat.le_refl _) o).cell (p := ⟨b, 0, none⟩) (cell_size hb)).trans hb
 clear hb
 obtain ⟨n, hn⟩ : ∃ n, f.nm = n := ⟨_, rfl⟩
 rw [hn]
 by_cases h : n = s
 ·subst h
  have t1 : (n == n) = true := beq_self_eq_true n
  have HD := hid (decide_eq_true (rfl : n = n))
  clear hn
  go_enter Tryd.func86, Tryd.ntmps86
  go_wp2
  go_ret
  exact ⟨by first | rfl | (rw [HD.out]; rfl), (Below.refl _ _).alloc (Nat.le_refl _) _⟩
 ·have t1 : (n == s) = false := beq_eq_false_iff_ne.2 h
  have HD := hid (decide_eq_false h)
  clear h hn
  go_enter Tryd.func86, Tryd.ntmps86
  go_wp2
  go_ret
  exact ⟨by first | rfl | (rw [HD.out]; rfl), (Below.refl _ _).alloc (Nat.le_refl _) _⟩

/-- Where a function with a name stands, -1 if nowhere: from place k on. -/
def idxGo (s : Bs) : List Fu → Nat → Int
 | [], _ => -1
 | f :: r, k => if f.nm = s then (k : Int) else idxGo s r (k + 1)
def idxM (p : List Fu) (s : Bs) : Int := idxGo s p 0
theorem idx_find (s : Bs) : ∀ (l : List Fu) (k : Nat), s ∈ l.map Fu.nm → ∃ i, ∃ h : i < l.length, idxGo s l k = ((k + i : Nat) : Int) ∧ l.find? (fun f => decide (f.nm = s)) = some l[i]
 | [], _, h => by simp at h
 | f :: r, k, h => by
  unfold idxGo
  by_cases e : f.nm = s
  ·exact ⟨0, by simp, by rw [if_pos e]; rfl, by simp [e]⟩
  ·rw [if_neg e]
   have h' : s ∈ r.map Fu.nm := by
    rw [List.map_cons, List.mem_cons] at h
    exact h.resolve_left fun h => e h.symm
   obtain ⟨i, hi, h1, h2⟩ := idx_find s r (k + 1) h'
   exact ⟨i + 1, by simp; omega, by rw [h1]; congr 1; omega, by simp [e, h2]⟩
set_option maxRecDepth 100000 in
set_option maxHeartbeats 2000000 in
theorem idx_any (l : List Fu) (s : Bs) (v : Value) (b : Nat) (w : World) (h : SlG kFu (· < w.heap.size) w v l) (hb : w.cell? ⟨b, 0, none⟩ = some (.string ⟨s.toArray⟩)) :
  Calls Tryd.prog 85 #[v, .func (.func 86) #[] #[.pointer (some ⟨b, 0, none⟩)]] w fun e w' => e = .returned (.int .i64 (idxM l s)) ∧ Below w.heap.size w w' := by
 obtain ⟨p, c, rfl⟩ := h.slc
 have HS := hid h; have HL := hid h.len; have HB := hid hb
 have HM := hid (show idxM l s = idxGo s (l.drop 0) 0 from rfl)
 clear h hb
 go_enter Tryd.func85, Tryd.ntmps85
 go_wp2
 go_loopw [4, 5, 8] (fun v4 v5 iv wr => ∃ k : Nat, k ≤ l.length ∧ iv = .int .i64 (k : Int) ∧ idxM l s = idxGo s (l.drop k) k ∧ Below w.heap.size w wr) (fun _ _ iv _ => l.length - (intOf iv).toNat)
 case atStart => exact ⟨0, Nat.zero_le _, rfl, HM.out, Below.refl _ _⟩
 case round =>
  obtain ⟨k, hk, rfl, hm, hbr⟩ := hrel
  by_cases hlt : k < l.length
  ·obtain ⟨b0, off, rfl, hR, hcells⟩ := fu_at HS.out (by omega : 0 < l.length)
   obtain ⟨pp, cp, pc, cc, hsp, hsc, c0, c1, c2, c3, c4⟩ := hcells k hlt
   have d0 := (hbr.cell (p := ⟨b0, off + k * 5, none⟩) hR).trans c0
   have d1 := (hbr.cell (p := ⟨b0, off + k * 5 + 1, none⟩) hR).trans c1
   have d2 := (hbr.cell (p := ⟨b0, off + k * 5 + 2, none⟩) hR).trans c2
   have d3 := (hbr.cell (p := ⟨b0, off + k * 5 + 3, none⟩) hR).trans c3
   have d4 := (hbr.cell (p := ⟨b0, off + k * 5 + 4, none⟩) hR).trans c4
   have HBC := hid ((hbr.cell (p := ⟨b, 0, none⟩) (cell_size HB.out)).trans HB.out)
   have HM2 := hid (hm.trans (by rw [List.drop_eq_getElem_cons hlt, idxGo]))
   have HLT := hid hlt; have HBR := hid hbr
   clear hcells hsp hsc c0 c1 c2 c3 c4 hR hbr hm
   generalize l[k] = f at *
   have HCL := hid (clos_any f s pp pc cp cc b wr HBC.out)
   by_cases hf : f.nm = s
   ·have HR := hid (HM2.out.trans (if_pos hf))
    rw [decide_eq_true hf] at HCL
    clear hf hlt
    go_wp2_with (go_at_call 86; with_reducible refine HCL.out.mono ?_; rintro e w2 ⟨rfl, hb2⟩; have HB2 := hid (HBR.out.trans (hb2.mono HBR.out.size)); clear hb2)
    go_ret
    exact ⟨by rw [HR.out]; rfl, HB2.out⟩
   ·have HR := hid (HM2.out.trans (if_neg hf))
    rw [decide_eq_false hf] at HCL
    clear hf hlt
    go_wp2_with (go_at_call 86; with_reducible refine HCL.out.mono ?_; rintro e w2 ⟨rfl, hb2⟩; have HB2 := hid (HBR.out.trans (hb2.mono HBR.out.size)); clear hb2)
    go_roundw
    case rel => exact ⟨k + 1, HLT.out, by rw [wrap_next HLT.out HL.out], HR.out, HB2.out⟩
    case measure => exact meas_next HLT.out HL.out
  ·obtain rfl : k = l.length := by omega
   have HR := hid (show idxM l s = -1 from by rw [hm, List.drop_length]; rfl)
   have HBR := hid hbr
   clear hlt hbr hm
   go_wp2_with fail
   go_ret
   exact ⟨by rw [HR.out]; rfl, HBR.out⟩

end Go.Proofs.YtoofbgoeipijcaaDoor
