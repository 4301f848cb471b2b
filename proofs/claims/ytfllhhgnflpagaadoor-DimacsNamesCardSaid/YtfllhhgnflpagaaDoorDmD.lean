/-
  Package dimacs: Parse, at texts that are not too long.
-/
import Derived.Test.YtfllhhgnflpagaaDoorDmB
namespace Go.Proofs.YtfllhhgnflpagaaDoor
set_option linter.unusedSimpArgs false
set_option linter.unusedVariables false
open Go.RowKit Go.Shelf
attribute [local go_sem] Oper.semAt_some
section
variable {P : Program} (w : World)
theorem run_appG {R : Nat → Prop} (base : Nat) (t ty e : TypeId) (z : Value) (size bytes : Nat) (ht : P.underlying t = some (.slice e))
    (hinfo : (P.info? e).map (fun i => (i.zero, i.size, i.bytes)) = some (some z, size, bytes)) (hzs : z.cells.size = size) (hpos : 0 < size)
    (v : Value) (n : Nat) (xs : List Value) (hown : w.ownsRow base e size v n xs)
    (p : Addr) (m c : Nat) (news : List Value) (hm : news.length = m * size) (hr : RowR R w (some p) news) (h1 : ∀ u ∈ news, u.oneCell' = true)
    (hsz : (n + m) * bytes ≤ 140737488355328) (h63 : n + m ≤ maxLen) (hbase : base ≤ w.heap.size) :
    ∃ v' w', (Builtin.append_ #[t, t] ty #[v, .slice (some p) m c]).run P w = .ok v' w' ∧ w'.ownsRow base e size v' (n + m) (xs ++ news) ∧ w.grownBy w' v.ownBlock ∧
      (v'.ownBlock = v.ownBlock ∨ v'.ownBlock = some w.heap.size) := by
  obtain ⟨i, hi, hz, hs1, hby⟩ := info_parts hinfo
  have hcells : ∀ j u, news[j]? = some u → w.cell? (p.add j) = some u := by
    intro j u hu
    obtain ⟨hj, rfl⟩ := List.getElem?_eq_some_iff.1 hu
    obtain ⟨b, off, h, _, hc⟩ := hr.at j hj
    injection h with h
    subst h
    have hadd : (⟨b, off, none⟩ : Addr).add j = ⟨b, off + j, none⟩ := by unfold Addr.add; split <;> simp_all
    rw [hadd]
    exact hc j hj
  obtain ⟨v', w', hrun, h2, h3, _, h5⟩ := run_append_own_at (P := P) w base t ty e i z size bytes ht hi hz hs1 hby hzs hpos v n xs hown p m c news hm hcells h1 h63 hsz hbase
  exact ⟨v', w', hrun, h2, h3, h5⟩
theorem wpListIn_appG {F : Fence} {nF : Nat} {R : Nat → Prop} {ops : Array Oper} {rest : List Oper} {o : Oper} {a : Act} {Q : Exit → Act → World → Prop} (hgd : o.guard = none) (s x : Operand) (t : TypeId)
    (ho : o.op = .call { callee := .builtin .append, args := #[s, x], argTypes := #[t, t] })
    (base : Nat) (e : TypeId) (z : Value) (size bytes : Nat) (ht : P.underlying t = some (.slice e))
    (hinfo : (P.info? e).map (fun i => (i.zero, i.size, i.bytes)) = some (some z, size, bytes)) (hzs : z.cells.size = size) (hpos : 0 < size)
    (v : Value) (n : Nat) (xs : List Value) (hs : a.eval s = v) (hown : w.ownsRow base e size v n xs)
    (p : Addr) (m c : Nat) (news : List Value) (hx : a.eval x = .slice (some p) m c) (hm : news.length = m * size) (hr : RowR R w (some p) news) (h1 : ∀ u ∈ news, u.oneCell' = true)
    (hsz : (n + m) * bytes ≤ 140737488355328) (h63 : n + m ≤ maxLen) (hbase : base ≤ w.heap.size)
    (h : ∀ v' w', w'.ownsRow base e size v' (n + m) (xs ++ news) → w.grownBy w' v.ownBlock → (v'.ownBlock = v.ownBlock ∨ v'.ownBlock = some w.heap.size) → wpListIn F nF P ops Q rest (a.put o.dst v') w') : wpListIn F nF P ops Q (o :: rest) a w := by
  refine wpListIn_plain hgd fun K hK => ?_
  obtain ⟨v', w', hrun, h2, h3, h4⟩ := run_appG (P := P) w base t o.type e z size bytes ht hinfo hzs hpos v n xs hown p m c news hm hr h1 hsz h63 hbase
  unfold Oper.wpIn
  refine ⟨by simp [Oper.about, ho, resolve, Target.leads, Sem.run_pure], ?_⟩
  rw [Oper.semAt_plain F _ _ (by rw [ho]; intro c hc'; cases hc')]
  simp [execOp, ho, resolve, invoke, builtin, hs, hx, hrun, Result.andThen]
  exact hK _ _ (h v' w' h2 h3 h4)
end
theorem info_int : (Tryd.prog.info? 3).map (fun i => (i.zero, i.size, i.bytes)) = some (some (.int .i64 0), 1, 8) := by kernel_rfl
theorem info_ints : (Tryd.prog.info? 34).map (fun i => (i.zero, i.size, i.bytes)) = some (some (.slice none 0 0), 1, 24) := by kernel_rfl
abbrev FvAll (B : Nat) (v0 v1 v2 v3 v4 v5 : Value) (W : World) : Prop :=
    (W.cell? ⟨B, 0, none⟩ = some v0 ∧ W.cell? ⟨B, 1, none⟩ = some v1 ∧ W.frozen? ⟨B, 0, none⟩ = false ∧ W.frozen? ⟨B, 1, none⟩ = false) ∧
    (W.cell? ⟨B + 1, 0, none⟩ = some v2 ∧ W.frozen? ⟨B + 1, 0, none⟩ = false) ∧ (W.cell? ⟨B + 1 + 1, 0, none⟩ = some v3 ∧ W.frozen? ⟨B + 1 + 1, 0, none⟩ = false) ∧
    (W.cell? ⟨B + 1 + 1 + 1, 0, none⟩ = some v4 ∧ W.frozen? ⟨B + 1 + 1 + 1, 0, none⟩ = false) ∧ (W.cell? ⟨B + 1 + 1 + 1 + 1, 0, none⟩ = some v5 ∧ W.frozen? ⟨B + 1 + 1 + 1 + 1, 0, none⟩ = false)
theorem fv_below {B : Nat} {v0 v1 v2 v3 v4 v5 : Value} {W W' : World} (h : Fv B v0 v1 v2 v3 v4 v5 W) (hb : Below W.heap.size W W') : Fv B v0 v1 v2 v3 v4 v5 W' := h.keep fun k _ h2 => hb.block k (by have := fv_lt h; omega)
/-- The results are stored: what an error leaves. -/
theorem fin_err {w W w1 : World} {st : PS} {F : Nat → Prop} {cv cc ln v0 v1 v2 v3 v4 v5 : Value} {n : Nat} {er : Int} {l0 : List Bs} {a : Act} (hp : PIs w st F W cv cc ln) (hB : Bnd F W) (hb : Below W.heap.size W w1)
    {w2 : World} (hm : Moved w F w1 w2) (hf : Fv w.heap.size v0 v1 v2 v3 v4 v5 w2) (hs : stepP st l0 = .error er) (he : er ≠ 0) (u0 u1 : Value) :
    WordPost F (PI w) (PX w) n (stepP st l0) W .ret a ((((w2.setCell ⟨w.heap.size, 0, none⟩ u0).setCell ⟨w.heap.size, 1, none⟩ u1).setCell ⟨w.heap.size + 1, 0, none⟩ (.int .i64 n)).setCell ⟨w.heap.size + 1 + 1, 0, none⟩ (.int .i64 er)) := by
  have m1 := ((((hm.set w.heap.size 0 (by omega) u0).set w.heap.size 1 (by omega) u1).set (w.heap.size + 1) 0 (by omega) (.int .i64 n)).set (w.heap.size + 1 + 1) 0 (by omega) (.int .i64 er))
  have k1 : Kept F W w1 := Kept.below hb hB
  have o1 : Below w.heap.size w w1 := hp.old.trans (hb.mono hp.old.size)
  exact ⟨k1.trans (m1.kept hp.oth), er, hs, _, _, _, _, ⟨(((hf.s0 u0).s1 u1).s2 (.int .i64 n)).s3 (.int .i64 er), m1.old o1, hp.oth, he⟩⟩
theorem step_head {st : PS} {l0 : List Bs} {a b : Int} (h : st.left < 0) (hh : headM l0 = (a, b, 0)) : stepP st l0 = .ok { st with vars := a, left := b } := by unfold stepP; rw [if_pos h, hh]; rfl
theorem step_headE {st : PS} {l0 : List Bs} {a b c : Int} (h : st.left < 0) (hh : headM l0 = (a, b, c)) (hc : c ≠ 0) : stepP st l0 = .error c := by unfold stepP; rw [if_pos h, hh, if_neg hc]
theorem step_left {st : PS} {x : Bs} (h : st.left = 0) : stepP st [x] = .error 4 := by unfold stepP; rw [if_neg (by omega)]; simp only [List.headD_cons]; cases numM x <;> simp [h]
theorem step_none {st : PS} {x : Bs} (h : 0 ≤ st.left) (hn : numM x = none) : stepP st [x] = .error 4 := by unfold stepP; rw [if_neg (by omega)]; simp [hn]
theorem step_rng {st : PS} {x : Bs} {v : Int} (h : 0 < st.left) (hn : numM x = some v) (hv : st.vars < v ∨ v < -st.vars) : stepP st [x] = .error 3 := by unfold stepP; rw [if_neg (by omega)]; simp only [List.headD_cons, hn]; rw [if_neg (by omega), if_pos hv]
theorem step_zero {st : PS} {x : Bs} (h : 0 < st.left) (hn : numM x = some 0) (hv : 0 ≤ st.vars) : stepP st [x] = .ok { st with cls := st.cls ++ [st.c], c := [], left := st.left - 1 } := by unfold stepP; rw [if_neg (by omega)]; simp only [List.headD_cons, hn]; rw [if_neg (by omega), if_neg (by omega), if_pos (by first | rfl | trivial)]
theorem step_full {st : PS} {x : Bs} {v : Int} (h : 0 < st.left) (hn : numM x = some v) (hv : ¬ (st.vars < v ∨ v < -st.vars)) (h0 : v ≠ 0) (hc : st.c.length = 4096) : stepP st [x] = .error 5 := by unfold stepP; rw [if_neg (by omega)]; simp only [List.headD_cons, hn]; rw [if_neg (by omega), if_neg hv, if_neg h0, if_pos hc]
theorem step_push {st : PS} {x : Bs} {v : Int} (h : 0 < st.left) (hn : numM x = some v) (hv : ¬ (st.vars < v ∨ v < -st.vars)) (h0 : v ≠ 0) (hc : ¬ st.c.length = 4096) : stepP st [x] = .ok { st with c := st.c ++ [v] } := by unfold stepP; rw [if_neg (by omega)]; simp only [List.headD_cons, hn]; rw [if_neg (by omega), if_neg hv, if_neg h0, if_neg hc]

theorem linesM_len (s : Bs) : (linesM s).length ≤ s.length := by
  induction s using linesM.induct with
  | case1 => rw [linesM_nil]; exact Nat.le_refl _
  | case2 s h ih =>
    rw [linesM_cons h, List.length_cons]
    have := cutNL_len s h
    omega
theorem CAcc.ll {B : Nat} {F : Nat → Prop} {W : World} {cv cc : Value} {cls : List (List Int)} {c : List Int} (h : CAcc B F W cv cc cls c) (hl : cls.length ≤ 140737488355328) : LL (fun k => B ≤ k ∧ k < W.heap.size ∧ ¬ F k) W cv cls := by
  obtain ⟨⟨vs, h1, h2, h3⟩, h4, h5, h6⟩ := h
  exact ⟨vs, Sl.of_owns h1 hl (fun k hk => ⟨(h1.lt k hk).1, (h1.lt k hk).2, (h5 k hk).1⟩), h2, fun i hi hi' => (h3 i hi hi').keep fun k ⟨a, b, d, _, _⟩ => ⟨⟨a, b, d⟩, rfl⟩⟩
theorem fin_ok {w W w2 : World} {st st' : PS} {F : Nat → Prop} {cv cc ln cv' cc' ln' : Value} {n : Nat} {l0 : List Bs} {a : Act} (hp : PIs w st F W cv cc ln) (k : Kept F W w2) (o : Below w.heap.size w w2)
    (hf : Fv w.heap.size (.int .i64 st'.vars) cv' ln' (.int .i64 0) (.int .i64 st'.left) cc' w2) (ha : CAcc (w.heap.size + 5) F w2 cv' cc' st'.cls st'.c) (hs : stepP st l0 = .ok st') : WordPost F (PI w) (PX w) n (stepP st l0) W .normal a w2 :=
  ⟨k, st', hs, _, _, _, hf, o, hp.oth, hp.inv.step hs, ha⟩
theorem acc_below {B : Nat} {F : Nat → Prop} {W W' : World} {cv cc : Value} {cls : List (List Int)} {c : List Int} (h : CAcc B F W cv cc cls c) (hb : Below W.heap.size W W') : CAcc B F W' cv cc cls c :=
  h.keep hb.size (fun k _ h2 _ => hb.block k h2) (fun k hk => .inl hk)
theorem fv_grown {B : Nat} {v0 v1 v2 v3 v4 v5 : Value} {W W' : World} {o : Obj} {row : Option Nat} (h : Fv B v0 v1 v2 v3 v4 v5 W) (hg : (W.alloc o).grownBy W' row) (hr : ∀ k, row = some k → B + 5 ≤ k) : Fv B v0 v1 v2 v3 v4 v5 W' :=
  h.keep fun k _ h2 => (hg.block k (by have := fv_lt h; rw [World.size_alloc]; omega) (fun e => by have := hr k e.symm; omega)).trans (Below.heap_alloc _ _ _ (by have := fv_lt h; omega))
theorem kept_grown {F : Nat → Prop} {W W' : World} {o : Obj} {row : Option Nat} (hB : Bnd F W) (hg : (W.alloc o).grownBy W' row) (hr : ∀ k, row = some k → ¬ F k) : Kept F W W' :=
  ⟨fun k hk => (hg.block k (by have := hB k hk; rw [World.size_alloc]; omega) (fun e => hr k e.symm hk)).trans (Below.heap_alloc _ _ _ (hB k hk)), by have := hg.size; rw [World.size_alloc] at this; omega, hg.os, hg.tape, hg.output⟩
theorem old_grown {B : Nat} {w W W' : World} {o : Obj} {row : Option Nat} (hb : Below B w W) (hB : B ≤ W.heap.size) (hg : (W.alloc o).grownBy W' row) (hr : ∀ k, row = some k → B ≤ k) : Below B w W' :=
  (hb.alloc hB o).grown hg (by rw [World.size_alloc]; omega) hr
theorem calls_round {P : Program} {f l n : Nat} {args : Array Value} {w : World} {R : Ending → World → Prop} (h : Calls P f args w R) : CallsIn (Fence.wide.inRound l) n P f args w R := (callsIn_wide (n := n)).2 h

set_option maxRecDepth 100000 in
set_option maxHeartbeats 4000000 in
theorem parse_short (s : Bs) (w : World) (h : s.length ≤ 65536) (hE : Env w) : Calls Tryd.prog 15 #[.string ⟨s.toArray⟩] w (ParsePost s w) := by
  have hd : decide (65536 < (s.length : Int)) = false := by simp; omega
  obtain ⟨m, hm⟩ := hE.max
  have HM := hid hm; have HE := hid hE; have HS := hid h
  clear hm hE h
  refine (callsIn_wide (n := 9)).1 ?_
  refine callsIn_of_wp_marks Tryd.func15 rfl trivial ?_ rfl
  simp only [Tryd.ntmps15, List.size_toArray, List.length_cons, List.length_nil, Nat.reduceAdd, Nat.reduceSub, Array.replicate_succ, Array.replicate_zero, List.push_toArray, List.append_toArray, List.nil_append, List.cons_append]
  gi_wp2
  refine ⟨trivial, ?_⟩
  refine (callsIn_wide.2 (words_any ⟨s.toArray⟩ _)).mono ?_
  rintro e w1 ⟨rfl, rfl⟩
  gi_wp2
  obtain ⟨w6, hw6⟩ : ∃ w6, (((((w.alloc (.cells #[.int .i64 0, .slice none 0 0] 24)).alloc (.cells #[.int .i64 0] 3)).alloc (.cells #[.int .i64 0] 27)).alloc (.cells #[.int .i64 (-1)] 3)).alloc (.cells #[.slice none 0 0] 34)).alloc (.cells #[.string ⟨s.toArray⟩] 9) = w6 := ⟨_, rfl⟩
  have hb6 : Below w.heap.size w w6 := by rw [← hw6]; exact (((((((Below.refl _ _).alloc (Nat.le_refl _) _).alloc (by simp) _).alloc (by simp; omega) _).alloc (by simp; omega) _).alloc (by simp; omega) _).alloc (by simp; omega) _)
  have hs6 : w6.heap.size = w.heap.size + 6 := by rw [← hw6]; simp
  have hf6 : Fv w.heap.size (.int .i64 0) (.slice none 0 0) (.int .i64 0) (.int .i64 0) (.int .i64 (-1)) (.slice none 0 0) w6 := by
    rw [← hw6]
    constructor
    · rw [heap_al, if_neg (by simp only [World.size_alloc]; omega), heap_al, if_neg (by simp only [World.size_alloc]; omega), heap_al, if_neg (by simp only [World.size_alloc]; omega), heap_al, if_neg (by simp only [World.size_alloc]; omega), heap_al, if_neg (by simp only [World.size_alloc]; omega), heap_al, if_pos (by first | rfl | (simp only [World.size_alloc]))]
    · rw [heap_al, if_neg (by simp only [World.size_alloc]; omega), heap_al, if_neg (by simp only [World.size_alloc]; omega), heap_al, if_neg (by simp only [World.size_alloc]; omega), heap_al, if_neg (by simp only [World.size_alloc]; omega), heap_al, if_pos (by first | rfl | (simp only [World.size_alloc]))]
    · rw [heap_al, if_neg (by simp only [World.size_alloc]; omega), heap_al, if_neg (by simp only [World.size_alloc]; omega), heap_al, if_neg (by simp only [World.size_alloc]; omega), heap_al, if_pos (by first | rfl | (simp only [World.size_alloc]))]
    · rw [heap_al, if_neg (by simp only [World.size_alloc]; omega), heap_al, if_neg (by simp only [World.size_alloc]; omega), heap_al, if_pos (by first | rfl | (simp only [World.size_alloc]))]
    · rw [heap_al, if_neg (by simp only [World.size_alloc]; omega), heap_al, if_pos (by first | rfl | (simp only [World.size_alloc]))]
  have c6 : w6.cell? ⟨w.heap.size + 5, 0, none⟩ = some (.string ⟨s.toArray⟩) := by rw [← hw6, cell_al, if_pos (by simp)]; rfl
  have C6 := hid c6; have FV6 := hid hf6; have HB6 := hid hb6; have HS6 := hid hs6
  clear c6 hf6 hb6 hs6
  rw [hw6]
  refine wp_range_words (by omega) (w.heap.size + 5) m s HS.out rfl rfl (PI w) (PX w) (clo_PI w) (clo_PX w) ?im (fun k => k = w.heap.size + 5) ?f0 rfl C6.out ?h0 ?a1 ?assign ?body ?done ?stop
  case im => (rintro st F W ⟨_, _, _, hp⟩; exact (hp.old.cell (p := ⟨3, 0, none⟩) (cell_size HM.out)).trans HM.out)
  case f0 => (rintro k rfl; have := HS6.out; omega)
  case h0 => exact ⟨_, _, _, FV6.out, HB6.out, (fun k hk => by omega), PInv.start, CAcc.nil _ _ _⟩
  case assign =>
    intro l n v W K hK
    gi_wp2
    exact hK
  case done =>
    rintro D st b W hD hrun ⟨cv, cc, ln, hp⟩ hdef
    obtain ⟨pv, kv, rfl⟩ : ∃ p k, cv = .slice p st.cls.length k := by obtain ⟨vs, hvs, _⟩ := hp.acc.lines; exact own_sliceG hvs
    obtain ⟨⟨c0, c1, f0, f1⟩, ⟨c2, f2⟩, ⟨c3, f3⟩, ⟨c4, f4⟩, ⟨c5, f5⟩⟩ := hp.fv.all
    have hDB : w.heap.size + 5 < D := by have := HS6.out; omega
    have HP := hid hp; have HDEF := hid hdef; have HRUN := hid hrun
    clear hp hdef hrun
    by_cases hl : st.left = 0
    · have hld : (st.left != 0) = false := by simp [hl]
      have HP0 := hid (show parseM s = ((st.vars, st.cls), 0, 0) from by unfold parseM; rw [if_neg (by have := HS.out; omega), HRUN.out]; simp [hl])
      clear hl
      gi_wp2
      have hm := ((((Moved.refl w (fun k => k = w.heap.size + 5 ∨ k = D) W).set w.heap.size 0 (by omega) (.int .i64 st.vars)).set w.heap.size 1 (by omega) (.slice pv st.cls.length kv)).set (w.heap.size + 1) 0 (by omega) (.int .i64 0)).set (w.heap.size + 1 + 1) 0 (by omega) (.int .i64 0)
      have hf := (((HP.out.fv.s0 (.int .i64 st.vars)).s1 (.slice pv st.cls.length kv)).s2 (.int .i64 0)).s3 (.int .i64 0)
      generalize ((((W.setCell ⟨w.heap.size, 0, none⟩ (.int .i64 st.vars)).setCell ⟨w.heap.size, 1, none⟩ (.slice pv st.cls.length kv)).setCell ⟨w.heap.size + 1, 0, none⟩ (.int .i64 0)).setCell ⟨w.heap.size + 1 + 1, 0, none⟩ (.int .i64 0)) = W4 at *
      have hd4 := (hm.oth D (.inr (by omega))).trans HDEF.out
      refine ⟨by simp, .inl ⟨_, _, rfl, run_takeDeferred hd4, ?_⟩⟩
      have hf5 : Fv w.heap.size (.int .i64 st.vars) (.slice pv st.cls.length kv) (.int .i64 0) (.int .i64 0) (.int .i64 st.left) cc (W4.putObj D (.deferred none)) := hf.keep fun k _ h2 => World.putObj_heap_other (by omega)
      refine leave_ok hf5.b0 hf5.b1 hf5.b2 ?hres1 ?_
      case hres1 => (intro W' a b c d h1 h2 h3 h4; simp [results, Tryd.results15, go_sem, h1, h2, h3, h4])
      refine ⟨.slice pv st.cls.length kv, by rw [HP0.out], ?_, (hm.old HP.out.old).grown (grownBy_putObj' _ D (.deferred none)) (hm.old HP.out.old).size (fun k e => by cases e; omega)⟩
      rw [HP0.out]
      have hinv := HP.out.inv.cls
      refine ((hm.acc HP.out.acc).ll (by split at hinv <;> omega)).keep fun k ⟨a1, a2, a3⟩ => ⟨⟨by omega, by simp [World.putObj]; exact a2⟩, World.putObj_heap_other (fun e => a3 (.inr (by omega)))⟩
    · have hld : (st.left != 0) = true := by simp [hl]
      obtain ⟨nl, hnl⟩ : ∃ nl, (linesM s).length = nl := ⟨_, rfl⟩
      have hnl2 : nl ≤ 65536 := by rw [← hnl]; exact Nat.le_trans (linesM_len s) HS.out
      have HP0 := hid (show parseM s = ((0, []), (nl : Int) + 1, 4) from by unfold parseM; rw [if_neg (by have := HS.out; omega), HRUN.out, hnl]; simp [hl])
      have hcnt := fun W => count_any s HS.out W m
      rw [hnl] at hcnt
      have HCNT := hid hcnt
      have hwr : IntKind.i64.wrap ((nl : Int) + 1) = (nl : Int) + 1 := IntWalk.i64_in _ (by omega)
      clear hl hcnt hnl
      gi_wp2_with fail
      clear c0 c1 c2 c3 c4 c5 f0 f1 f2 f3 f4 f5
      have hm5 : Moved w (fun k => k = w.heap.size + 5 ∨ k = D) W W.drew := ⟨fun _ _ => rfl, rfl, rfl, rfl, rfl⟩
      have hf5 : Fv w.heap.size (.int .i64 st.vars) (.slice pv st.cls.length kv) ln (.int .i64 0) (.int .i64 st.left) cc W.drew := ⟨HP.out.fv.b0, HP.out.fv.b1, HP.out.fv.b2, HP.out.fv.b3, HP.out.fv.b4⟩
      have hd5 : W.drew.heap[D]? = some (.deferred (some [])) := HDEF.out
      have hFa : ∀ f, Fence.wide.fn f := fun _ => trivial
      refine wpIn_onlyN ?_
      refine wpIn_region_HJ (fun W' : World => ∃ v2, FvAll w.heap.size (.int .i64 st.vars) (.slice pv st.cls.length kv) v2 (.int .i64 0) (.int .i64 st.left) cc W') 6 (by kernel_rfl) ?_
      simp only [List.size_toArray, List.length_cons, List.length_nil, Nat.reduceAdd]
      generalize W.drew = w5 at *
      have HM5 := hid hm5; have HF5 := hid hf5; have HD5 := hid hd5
      have hS : (fun W' : World => ∃ v2, FvAll w.heap.size (.int .i64 st.vars) (.slice pv st.cls.length kv) v2 (.int .i64 0) (.int .i64 st.left) cc W') w5 := ⟨ln, hf5.all⟩
      clear hm5 hf5 hd5
      refine wpHJ_take (v := ?vp0) 0 hFa rfl (by kernel_rfl) (fun _ _ _ h => h.elim) (Or.inl ⟨by rfl, ?yp0⟩) hS ?rp0
      case yp0 => (intro w' hS'; obtain ⟨u2, ⟨g0, g1, k0, k1⟩, ⟨g2, k2⟩, ⟨g3, k3⟩, ⟨g4, k4⟩, ⟨g5, k5⟩⟩ := hS'; go_simp; try rfl)
      simp only [Act.put, List.getElem_toArray, List.getElem_cons_succ, List.getElem_cons_zero, List.setIfInBounds_toArray, List.set_cons_zero, List.set_cons_succ]
      refine wpHJ_pure (v := ?vp1) 1 hFa rfl (by kernel_rfl) (fun _ _ _ h => h.elim) (Or.inl ⟨by rfl, ?yp1⟩) (.inr hS) ?rp1
      case yp1 => (intro w' _; go_simp; try rfl)
      simp only [Act.put, List.getElem_toArray, List.getElem_cons_succ, List.getElem_cons_zero, List.setIfInBounds_toArray, List.set_cons_zero, List.set_cons_succ]
      refine wpHJ_only 2 (by kernel_rfl) rfl ?_
      intro K hK
      go_simp
      refine (callsIn_wide.2 (HCNT.out _ ?mx)).mono ?_
      case mx => exact ((HM5.out.old HP.out.old).cell (p := ⟨3, 0, none⟩) (cell_size HM.out)).trans HM.out
      rintro e w7 ⟨rfl, hb7⟩
      have HF7 := hid (fv_below HF5.out hb7)
      have HB7 := hid hb7
      clear hb7
      have hS7 : (fun W' : World => ∃ v2, FvAll w.heap.size (.int .i64 st.vars) (.slice pv st.cls.length kv) v2 (.int .i64 0) (.int .i64 st.left) cc W') w7 := ⟨ln, HF7.out.all⟩
      have hSx := hS7
      obtain ⟨u2, ⟨g0, g1, k0, k1⟩, ⟨g2, k2⟩, ⟨g3, k3⟩, ⟨g4, k4⟩, ⟨g5, k5⟩⟩ := hSx
      refine hK _ _ (.inr (.inr hS7)) ?_
      clear hK K
      refine wpHJ_pure (v := ?vp3) 3 hFa rfl (by kernel_rfl) (fun _ _ _ h => h.elim) (Or.inl ⟨by rfl, ?yp3⟩) (.inr hS7) ?rp3
      case yp3 => (intro w' _; go_simp; try rfl)
      simp only [Act.put, List.getElem_toArray, List.getElem_cons_succ, List.getElem_cons_zero, List.setIfInBounds_toArray, List.set_cons_zero, List.set_cons_succ]
      refine wpHJ_only 4 (by kernel_rfl) rfl ?_
      intro K hK
      have hS8 : (fun W' : World => ∃ v2, FvAll w.heap.size (.int .i64 st.vars) (.slice pv st.cls.length kv) v2 (.int .i64 0) (.int .i64 st.left) cc W') ((w7.setCell ⟨w.heap.size, 0, none⟩ (.int .i64 st.vars)).setCell ⟨w.heap.size, 1, none⟩ (.slice pv st.cls.length kv)) := ⟨_, ((HF7.out.s0 (.int .i64 st.vars)).s1 (.slice pv st.cls.length kv)).all⟩
      go_simp
      refine hK _ _ (.inr (.inr hS8)) ?_
      clear hK K
      refine wpHJ_only 5 (by kernel_rfl) rfl ?_
      intro K hK
      have hS9 : (fun W' : World => ∃ v2, FvAll w.heap.size (.int .i64 st.vars) (.slice pv st.cls.length kv) v2 (.int .i64 0) (.int .i64 st.left) cc W') (((w7.setCell ⟨w.heap.size, 0, none⟩ (.int .i64 st.vars)).setCell ⟨w.heap.size, 1, none⟩ (.slice pv st.cls.length kv)).setCell ⟨w.heap.size + 1, 0, none⟩ (.int .i64 ((nl : Int) + 1))) := ⟨_, (((HF7.out.s0 (.int .i64 st.vars)).s1 (.slice pv st.cls.length kv)).s2 (.int .i64 ((nl : Int) + 1))).all⟩
      go_simp
      refine hK _ _ (.inr (.inr hS9)) ?_
      clear hK K
      refine wpHJ_only 6 (by kernel_rfl) rfl ?_
      intro K hK
      go_simp
      refine hK _ _ (.inl rfl) ?_
      clear hK K
      refine wpHJ_done (by kernel_rfl) ?_ _
      simp only [onlyN, Exit.then]
      clear hFa
      gi_wp2_with fail
      have hm8 := ((((Moved.refl w (fun k => k = w.heap.size + 5 ∨ k = D) w7).set w.heap.size 0 (by omega) (.int .i64 st.vars)).set w.heap.size 1 (by omega) (.slice pv st.cls.length kv)).set (w.heap.size + 1) 0 (by omega) (.int .i64 ((nl : Int) + 1))).set (w.heap.size + 1 + 1) 0 (by omega) (.int .i64 4)
      have hf8 := (((HF7.out.s0 (.int .i64 st.vars)).s1 (.slice pv st.cls.length kv)).s2 (.int .i64 ((nl : Int) + 1))).s3 (.int .i64 4)
      generalize ((((w7.setCell ⟨w.heap.size, 0, none⟩ (.int .i64 st.vars)).setCell ⟨w.heap.size, 1, none⟩ (.slice pv st.cls.length kv)).setCell ⟨w.heap.size + 1, 0, none⟩ (.int .i64 ((nl : Int) + 1))).setCell ⟨w.heap.size + 1 + 1, 0, none⟩ (.int .i64 4)) = W4 at *
      have hd4 := (hm8.oth D (.inr (by omega))).trans ((HB7.out.block D (Array.getElem?_eq_some_iff.1 HD5.out).1).trans HD5.out)
      refine ⟨by simp, .inl ⟨_, _, rfl, run_takeDeferred hd4, ?_⟩⟩
      have hf9 : Fv w.heap.size (.int .i64 st.vars) (.slice pv st.cls.length kv) (.int .i64 ((nl : Int) + 1)) (.int .i64 4) (.int .i64 st.left) cc (W4.putObj D (.deferred none)) := hf8.keep fun k _ h2 => World.putObj_heap_other (by omega)
      refine leave_err hf9.b0 hf9.b1 hf9.b2 (by decide) ?hres2 ?_
      case hres2 => (intro W' a b c d h1 h2 h3 h4; simp [results, Tryd.results15, go_sem, h1, h2, h3, h4])
      refine ⟨.slice none 0 0, by rw [HP0.out], by rw [HP0.out]; exact ⟨[], Sl.nil, rfl, fun i h => absurd h (by simp)⟩, ?_⟩
      have o7 : Below w.heap.size w w7 := (HM5.out.old HP.out.old).trans (HB7.out.mono (HM5.out.old HP.out.old).size)
      exact (((hm8.old o7).grown (grownBy_putObj' _ D (.deferred none)) (hm8.old o7).size (fun k e => by cases e; omega)).setCell (p := ⟨w.heap.size, 0, none⟩) (Nat.le_refl _) _).setCell (p := ⟨w.heap.size, 1, none⟩) (Nat.le_refl _) _
  case stop =>
    rintro D n er W hD hrun ⟨v0, v1, v4, v5, hx⟩ hdef
    have hDB : w.heap.size + 5 < D := by have := HS6.out; omega
    have hP : parseM s = ((0, []), (n : Int), er) := by unfold parseM; rw [if_neg (by have := HS.out; omega), hrun]
    refine ⟨by simp, .inl ⟨_, _, rfl, run_takeDeferred hdef, ?_⟩⟩
    have hf5 : Fv w.heap.size v0 v1 (.int .i64 n) (.int .i64 er) v4 v5 (W.putObj D (.deferred none)) := hx.fv.keep fun k _ h2 => World.putObj_heap_other (by omega)
    refine leave_err hf5.b0 hf5.b1 hf5.b2 hx.ne ?hres3 ?_
    case hres3 => (intro W' a b c d h1 h2 h3 h4; simp [results, Tryd.results15, go_sem, h1, h2, h3, h4])
    refine ⟨.slice none 0 0, by rw [hP], by rw [hP]; exact ⟨[], Sl.nil, rfl, fun i h => absurd h (by simp)⟩, ?_⟩
    exact ((hx.old.grown (grownBy_putObj' _ D (.deferred none)) hx.old.size (fun k e => by cases e; omega)).setCell (p := ⟨w.heap.size, 0, none⟩) (Nat.le_refl _) _).setCell (p := ⟨w.heap.size, 1, none⟩) (Nat.le_refl _) _
  case body =>
    rintro l n st F W v l0 ⟨cv, cc, ln, hp⟩ hB hn1 hn2 hne hmem hone ⟨R, hRF, hst⟩
    obtain ⟨pc, kc, rfl⟩ := own_sliceG hp.acc.row
    obtain ⟨vs, hvs, hvl, hvx⟩ := hp.acc.lines
    obtain ⟨pv, kv, rfl⟩ := own_sliceG hvs
    obtain ⟨⟨c0, c1, f0, f1⟩, ⟨c2, f2⟩, ⟨c3, f3⟩, ⟨c4, f4⟩, ⟨c5, f5⟩⟩ := hp.fv.all
    have hEW := HE.out.below hp.old
    have hstW : Strs (· < W.heap.size) W v l0 := hst.keep fun k hk => ⟨hB k (hRF k hk), rfl⟩
    obtain ⟨pl, kl, rfl, hl1, hl2, hl3, hrow⟩ := hstW.op
    have HP := hid hp; have HB := hid hB; have HMEM := hid hmem; have HONE := hid hone; have HEW := hid hEW; have HSTW := hid hstW; have HROW := hid hrow; have HVS := hid hvs; have HL := hid (And.intro hl1 (And.intro hl2 hl3))
    obtain ⟨N0, hN0⟩ : ∃ N0, st.cls.length = N0 := ⟨_, rfl⟩
    obtain ⟨C0, hC0⟩ : ∃ C0, st.c.length = C0 := ⟨_, rfl⟩
    rw [hN0] at c1
    rw [hC0] at c5
    have HN0 := hid hN0; have HC0 := hid hC0
    clear hp hB hmem hone hEW hstW hrow hst hRF hvs hvl hvx hl1 hl2 hl3 hN0 hC0
    by_cases hneg : st.left < 0
    · have hnd : decide (st.left < 0) = true := by simpa using hneg
      have HNEG := hid hneg
      obtain ⟨a, b, c, hh⟩ : ∃ a b c, headM l0 = (a, b, c) := ⟨_, _, _, rfl⟩
      have hhd := header_any l0 (.slice pl l0.length kl) W HSTW.out HMEM.out HEW.out
      unfold HeadPost at hhd
      rw [hh] at hhd
      have HH := hid hh; have HHD := hid hhd
      clear hneg hh hhd
      by_cases hc : c = 0
      · subst hc
        gi_wp2
        refine ⟨trivial, (calls_round HHD.out).mono ?_⟩
        rintro e w1 ⟨rfl, hb1⟩
        obtain ⟨⟨d0, d1, e0, e1⟩, ⟨d2, e2⟩, ⟨d3, e3⟩, ⟨d4, e4⟩, ⟨d5, e5⟩⟩ := (fv_below HP.out.fv hb1).all
        rw [HN0.out] at d1
        rw [HC0.out] at d5
        have HB1 := hid hb1
        clear hb1 c0 c1 c2 c3 c4 c5 f0 f1 f2 f3 f4 f5 HHD
        gi_wp2
        have hm3 := (((Moved.refl w F w1).set w.heap.size 0 (by omega) (.int .i64 a)).set (w.heap.size + 1 + 1 + 1) 0 (by omega) (.int .i64 b)).set (w.heap.size + 1 + 1) 0 (by omega) (.int .i64 0)
        refine fin_ok (st' := { st with vars := a, left := b }) HP.out ((Kept.below HB1.out HB.out).trans (hm3.kept HP.out.oth)) (hm3.old (HP.out.old.trans (HB1.out.mono HP.out.old.size))) ((((fv_below HP.out.fv HB1.out).s0 (.int .i64 a)).s4 (.int .i64 b)).s3 (.int .i64 0)) (hm3.acc (acc_below HP.out.acc HB1.out)) (step_head HNEG.out HH.out)
      · have hcd : (c != 0) = true := by simp [hc]
        have HC := hid hc
        clear hc
        gi_wp2
        refine ⟨trivial, (calls_round HHD.out).mono ?_⟩
        rintro e w1 ⟨rfl, hb1⟩
        obtain ⟨⟨d0, d1, e0, e1⟩, ⟨d2, e2⟩, ⟨d3, e3⟩, ⟨d4, e4⟩, ⟨d5, e5⟩⟩ := (fv_below HP.out.fv hb1).all
        rw [HN0.out] at d1
        rw [HC0.out] at d5
        have HB1 := hid hb1
        clear hb1 c0 c1 c2 c3 c4 c5 f0 f1 f2 f3 f4 f5 HHD
        gi_wp2_with fail
        obtain ⟨w4, hw4⟩ : ∃ w4, ((w1.setCell ⟨w.heap.size, 0, none⟩ (.int .i64 a)).setCell ⟨w.heap.size + 1 + 1 + 1, 0, none⟩ (.int .i64 b)).setCell ⟨w.heap.size + 1 + 1, 0, none⟩ (.int .i64 c) = w4 := ⟨_, rfl⟩
        rw [hw4]
        have hm4 : Moved w F w1 w4 := by rw [← hw4]; exact (((Moved.refl w F w1).set w.heap.size 0 (by omega) (.int .i64 a)).set (w.heap.size + 1 + 1 + 1) 0 (by omega) (.int .i64 b)).set (w.heap.size + 1 + 1) 0 (by omega) (.int .i64 c)
        have hf4 : Fv w.heap.size (.int .i64 a) (.slice pv N0 kv) ln (.int .i64 c) (.int .i64 b) (.slice pc C0 kc) w4 := by
          rw [← hw4, ← HN0.out, ← HC0.out]
          exact (((fv_below HP.out.fv HB1.out).s0 (.int .i64 a)).s4 (.int .i64 b)).s3 (.int .i64 c)
        have hm5 : Moved w F w1 w4.drew := ⟨hm4.oth, hm4.size, hm4.os, hm4.tape, hm4.output⟩
        have hf5 : Fv w.heap.size (.int .i64 a) (.slice pv N0 kv) ln (.int .i64 c) (.int .i64 b) (.slice pc C0 kc) w4.drew := ⟨hf4.b0, hf4.b1, hf4.b2, hf4.b3, hf4.b4⟩
        clear hm4 hf4 hw4 d0 d1 d2 d3 d4 d5 e0 e1 e2 e3 e4 e5
        have hFa : ∀ f, (Fence.wide.inRound l).fn f := fun _ => trivial
        refine wpIn_region_HJ (fun W' : World => ∃ v2, FvAll w.heap.size (.int .i64 a) (.slice pv N0 kv) v2 (.int .i64 c) (.int .i64 b) (.slice pc C0 kc) W') 5 (by kernel_rfl) ?_
        simp only [List.size_toArray, List.length_cons, List.length_nil, Nat.reduceAdd]
        generalize w4.drew = w5 at *
        have HM5 := hid hm5; have HF5 := hid hf5
        have hS : (fun W' : World => ∃ v2, FvAll w.heap.size (.int .i64 a) (.slice pv N0 kv) v2 (.int .i64 c) (.int .i64 b) (.slice pc C0 kc) W') w5 := ⟨ln, hf5.all⟩
        have hSx := hS
        obtain ⟨u2, ⟨g0, g1, k0, k1⟩, ⟨g2, k2⟩, ⟨g3, k3⟩, ⟨g4, k4⟩, ⟨g5, k5⟩⟩ := hSx
        clear hm5 hf5
        refine wpHJ_take (v := ?vq0) 0 hFa rfl (by kernel_rfl) (fun _ _ _ h => h) (Or.inl ⟨by rfl, ?yq0⟩) hS ?rq0
        case yq0 => (intro w' hS'; obtain ⟨u2, ⟨g0, g1, k0, k1⟩, ⟨g2, k2⟩, ⟨g3, k3⟩, ⟨g4, k4⟩, ⟨g5, k5⟩⟩ := hS'; go_simp; try rfl)
        simp only [Act.put, List.getElem_toArray, List.getElem_cons_succ, List.getElem_cons_zero, List.setIfInBounds_toArray, List.set_cons_zero, List.set_cons_succ]
        refine wpHJ_pure (v := ?vq1) 1 hFa rfl (by kernel_rfl) (fun _ _ _ h => h) (Or.inl ⟨by rfl, ?yq1⟩) (.inr hS) ?rq1
        case yq1 => (intro w' _; go_simp; try rfl)
        simp only [Act.put, List.getElem_toArray, List.getElem_cons_succ, List.getElem_cons_zero, List.setIfInBounds_toArray, List.set_cons_zero, List.set_cons_succ]
        refine wpHJ_take (v := ?vq2) 2 hFa rfl (by kernel_rfl) (fun _ _ _ h => h) (Or.inl ⟨by rfl, ?yq2⟩) hS ?rq2
        case yq2 => (intro w' hS'; obtain ⟨u2, ⟨g0, g1, k0, k1⟩, ⟨g2, k2⟩, ⟨g3, k3⟩, ⟨g4, k4⟩, ⟨g5, k5⟩⟩ := hS'; go_simp; try rfl)
        simp only [Act.put, List.getElem_toArray, List.getElem_cons_succ, List.getElem_cons_zero, List.setIfInBounds_toArray, List.set_cons_zero, List.set_cons_succ]
        refine wpHJ_only 3 (by kernel_rfl) rfl ?_
        intro K hK
        have hS3 : (fun W' : World => ∃ v2, FvAll w.heap.size (.int .i64 a) (.slice pv N0 kv) v2 (.int .i64 c) (.int .i64 b) (.slice pc C0 kc) W') ((w5.setCell ⟨w.heap.size, 0, none⟩ (.int .i64 a)).setCell ⟨w.heap.size, 1, none⟩ (.slice pv N0 kv)) := ⟨ln, ((HF5.out.s0 (.int .i64 a)).s1 (.slice pv N0 kv)).all⟩
        go_simp
        refine hK _ _ (.inr (.inr hS3)) ?_
        clear hK K
        refine wpHJ_only 4 (by kernel_rfl) rfl ?_
        intro K hK
        have hS4 : (fun W' : World => ∃ v2, FvAll w.heap.size (.int .i64 a) (.slice pv N0 kv) v2 (.int .i64 c) (.int .i64 b) (.slice pc C0 kc) W') (((w5.setCell ⟨w.heap.size, 0, none⟩ (.int .i64 a)).setCell ⟨w.heap.size, 1, none⟩ (.slice pv N0 kv)).setCell ⟨w.heap.size + 1, 0, none⟩ (.int .i64 n)) := ⟨_, ((((HF5.out.s0 (.int .i64 a)).s1 (.slice pv N0 kv)).s2 (.int .i64 n))).all⟩
        go_simp
        refine hK _ _ (.inr (.inr hS4)) ?_
        clear hK K
        refine wpHJ_only 5 (by kernel_rfl) rfl ?_
        intro K hK
        go_simp
        refine hK _ _ (.inl rfl) ?_
        clear hK K
        refine wpHJ_done (by kernel_rfl) ?_ _
        skip
        clear hFa
        gi_wp2
        exact fin_err HP.out HB.out HB1.out HM5.out HF5.out (step_headE HNEG.out HH.out HC.out) HC.out _ _
    · have hnd : decide (st.left < 0) = false := by simpa using hneg
      obtain ⟨x, rfl⟩ : ∃ x, l0 = [x] := by
        have := HONE.out (by omega)
        match l0, this with
        | [x], _ => exact ⟨x, rfl⟩
      obtain ⟨bk, off, rfl, _, hcell⟩ := HROW.out.atS 0 (by simp)
      have z0 : W.cell? ⟨bk, off, none⟩ = some (.string ⟨x.toArray⟩) := hcell 0 (by simp)
      have hxl : x.length ≤ 65536 := HMEM.out x (by simp)
      have HXL := hid hxl
      have HPOS := hid (show 0 ≤ st.left by omega)
      clear hcell hxl hneg HROW HSTW HONE
      cases hnum : numM x with
      | none =>
        have HNUM := hid hnum
        have HCALL := hid (num_not hnum W HXL.out HEW.out)
        clear hnum
        cases hz : (st.left == 0)
        all_goals
          have HZ := hid hz
          gi_wp2
          refine ⟨trivial, (calls_round HCALL.out).mono ?_⟩
          rintro e w1 ⟨rfl, hb1⟩
          obtain ⟨⟨d0, d1, e0, e1⟩, ⟨d2, e2⟩, ⟨d3, e3⟩, ⟨d4, e4⟩, ⟨d5, e5⟩⟩ := (fv_below HP.out.fv hb1).all
          rw [HN0.out] at d1
          rw [HC0.out] at d5
          have HB1 := hid hb1
          clear hb1 c0 c1 c2 c3 c4 c5 f0 f1 f2 f3 f4 f5 HCALL z0
          gi_wp2
          exact fin_err HP.out HB.out HB1.out (Moved.refl _ _ _) (fv_below HP.out.fv HB1.out) (step_none HPOS.out HNUM.out) (by decide) _ _
      | some v =>
        have HNUM := hid hnum
        have HCALL := hid (num_is hnum W HXL.out HEW.out)
        clear hnum
        cases hz : (st.left == 0)
        case true =>
          have HZ := hid (show st.left = 0 by simpa using hz)
          gi_wp2
          refine ⟨trivial, (calls_round HCALL.out).mono ?_⟩
          rintro e w1 ⟨rfl, hb1⟩
          obtain ⟨⟨d0, d1, e0, e1⟩, ⟨d2, e2⟩, ⟨d3, e3⟩, ⟨d4, e4⟩, ⟨d5, e5⟩⟩ := (fv_below HP.out.fv hb1).all
          rw [HN0.out] at d1
          rw [HC0.out] at d5
          have HB1 := hid hb1
          clear hb1 c0 c1 c2 c3 c4 c5 f0 f1 f2 f3 f4 f5 HCALL z0
          gi_wp2
          exact fin_err HP.out HB.out HB1.out (Moved.refl _ _ _) (fv_below HP.out.fv HB1.out) (step_left HZ.out) (by decide) _ _
        case false =>
          have hlp : 0 < st.left := by
            have h1 : st.left ≠ 0 := by simpa using hz
            have := HPOS.out
            omega
          have HLP := hid hlp
          have hv1 := HP.out.inv.v0; have hv2 := HP.out.inv.v1
          have HV := hid (And.intro hv1 hv2)
          have hwn : IntKind.i64.wrap (-st.vars) = -st.vars := IntWalk.i64_in _ (by omega)
          have hcl := HP.out.inv.cls; have hc4 := HP.out.inv.c
          rw [if_neg (by omega)] at hcl
          rw [HN0.out] at hcl
          rw [HC0.out] at hc4
          have hwl : IntKind.i64.wrap (st.left - 1) = st.left - 1 := IntWalk.i64_in _ (by omega)
          have HCL := hid hcl; have HC4 := hid hc4; have HWL := hid hwl
          clear hlp hv1 hv2 hcl hc4 hwl
          cases ha : decide (st.vars < v)
          case true =>
            have HA := hid (show st.vars < v by simpa using ha)
            gi_wp2
            refine ⟨trivial, (calls_round HCALL.out).mono ?_⟩
            rintro e w1 ⟨rfl, hb1⟩
            obtain ⟨⟨d0, d1, e0, e1⟩, ⟨d2, e2⟩, ⟨d3, e3⟩, ⟨d4, e4⟩, ⟨d5, e5⟩⟩ := (fv_below HP.out.fv hb1).all
            rw [HN0.out] at d1
            rw [HC0.out] at d5
            have HB1 := hid hb1
            clear hb1 c0 c1 c2 c3 c4 c5 f0 f1 f2 f3 f4 f5 HCALL z0
            gi_wp2
            exact fin_err HP.out HB.out HB1.out (Moved.refl _ _ _) (fv_below HP.out.fv HB1.out) (step_rng HLP.out HNUM.out (.inl HA.out)) (by decide) _ _
          case false =>
            cases hb : decide (v < -st.vars)
            case true =>
              have HA := hid (show v < -st.vars by simpa using hb)
              gi_wp2
              refine ⟨trivial, (calls_round HCALL.out).mono ?_⟩
              rintro e w1 ⟨rfl, hb1⟩
              obtain ⟨⟨d0, d1, e0, e1⟩, ⟨d2, e2⟩, ⟨d3, e3⟩, ⟨d4, e4⟩, ⟨d5, e5⟩⟩ := (fv_below HP.out.fv hb1).all
              rw [HN0.out] at d1
              rw [HC0.out] at d5
              have HB1 := hid hb1
              clear hb1 c0 c1 c2 c3 c4 c5 f0 f1 f2 f3 f4 f5 HCALL z0
              gi_wp2
              exact fin_err HP.out HB.out HB1.out (Moved.refl _ _ _) (fv_below HP.out.fv HB1.out) (step_rng HLP.out HNUM.out (.inr HA.out)) (by decide) _ _
            case false =>
              have HR := hid (show ¬ (st.vars < v ∨ v < -st.vars) by
                have h1 : ¬ st.vars < v := by simpa using ha
                have h2 : ¬ v < -st.vars := by simpa using hb
                omega)
              by_cases hv0 : v = 0
              · subst hv0
                have hwl := HWL.out
                clear HR ha hb
                have ha : decide (st.vars < 0) = false := by have := HV.out; simp; omega
                have hb : decide (0 < -st.vars) = false := by have := HV.out; simp; omega
                gi_wp2
                refine ⟨trivial, (calls_round HCALL.out).mono ?_⟩
                rintro e w1 ⟨rfl, hb1⟩
                obtain ⟨⟨d0, d1, e0, e1⟩, ⟨d2, e2⟩, ⟨d3, e3⟩, ⟨d4, e4⟩, ⟨d5, e5⟩⟩ := (fv_below HP.out.fv hb1).all
                rw [HN0.out] at d1
                rw [HC0.out] at d5
                have HB1 := hid hb1
                clear hb1 c0 c1 c2 c3 c4 c5 f0 f1 f2 f3 f4 f5 HCALL z0
                have hA1 : CAcc (w.heap.size + 5) F w1 (.slice pv N0 kv) (.slice pc C0 kc) st.cls st.c := by rw [← HN0.out, ← HC0.out]; exact acc_below HP.out.acc HB1.out
                have hB1' : Bnd F w1 := HB.out.le HB1.out.size
                have hw1 : w.heap.size + 5 ≤ w1.heap.size := fv_lt (fv_below HP.out.fv HB1.out)
                obtain ⟨us, hus, hul, hux⟩ := hA1.lines
                rw [HN0.out] at hus
                have HA1 := hid hA1; have HB1' := hid hB1'; have HUS := hid hus; have HW1 := hid hw1
                have hus' := hus
                clear hA1 hB1' hus hul hux hw1
                gi_wp2_with (gi_at_builtin; refine wpListIn_appG _ rfl (.tmp 68) (.tmp 70) 22 rfl (w.heap.size + 5) 34 (.slice none 0 0) 1 24 Tryd.underlying22 info_ints rfl (by decide) (.slice pv N0 kv) N0 _ rfl (HUS.out.alloc _) ⟨w1.heap.size, 0, none⟩ 1 1 [.slice pc C0 kc] rfl rfl (RowR.lit w1 [.slice pc C0 kc] 34 rfl) (by simp [Value.oneCell']) (by have := HCL.out; have := HLP.out; omega) (by have := HCL.out; have := HLP.out; unfold maxLen; omega) (by have := HW1.out; rw [World.size_alloc]; omega) ?_; intro v4 w4 ho4 hg4 hv4; obtain ⟨p4, k4, rfl⟩ := own_sliceG ho4; obtain ⟨⟨d0, d1, e0, e1⟩, ⟨d2, e2⟩, ⟨d3, e3⟩, ⟨d4, e4⟩, ⟨d5, e5⟩⟩ := (fv_grown (fv_below HP.out.fv HB1.out) hg4 (fun k hk => (HUS.out.lt k hk).1)).all; rw [HN0.out] at d1; rw [HC0.out] at d5; have HO4 := hid ho4; have HG4 := hid hg4; have HV4 := hid hv4; clear ho4 hg4 hv4 hus')
                have hO4 := HO4.out
                have hk4 : Kept F W w4 := (Kept.below HB1.out HB.out).trans (kept_grown HB1'.out HG4.out (fun k hk => (HA1.out.ncv k hk).1))
                have ho4 : Below w.heap.size w w4 := old_grown (HP.out.old.trans (HB1.out.mono HP.out.old.size)) (by have := HW1.out; omega) HG4.out (fun k hk => by have := (HUS.out.lt k hk).1; omega)
                have ha4 := HA1.out.line HB1'.out (by rw [HC0.out]; have := HC4.out; omega) HG4.out (by rw [HN0.out]; exact HUS.out) (by rw [HN0.out]; exact HO4.out) HV4.out
                have hf1 : Fv w.heap.size (.int .i64 st.vars) (.slice pv N0 kv) ln (.int .i64 0) (.int .i64 st.left) (.slice pc C0 kc) w1 := by rw [← HN0.out, ← HC0.out]; exact fv_below HP.out.fv HB1.out
                have hf4 := fv_grown hf1 HG4.out (fun k hk => (HUS.out.lt k hk).1)
                have hm4 := (((Moved.refl w F w4).set w.heap.size 1 (by omega) (.slice p4 (N0 + 1) k4)).set (w.heap.size + 1 + 1 + 1 + 1) 0 (by omega) (.slice none 0 0)).set (w.heap.size + 1 + 1 + 1) 0 (by omega) (.int .i64 (st.left - 1))
                refine fin_ok (st' := { st with cls := st.cls ++ [st.c], c := [], left := st.left - 1 }) HP.out (hk4.trans (hm4.kept HP.out.oth)) (hm4.old ho4) (((hf4.s1 (.slice p4 (N0 + 1) k4)).s5 (.slice none 0 0)).s4 (.int .i64 (st.left - 1))) (hm4.acc ha4) (step_zero HLP.out HNUM.out HV.out.1)
              · have hvd : (v == 0) = false := by simp [hv0]
                have HV0 := hid hv0
                clear hv0
                by_cases hfull : C0 = 4096
                · have hfd : ((C0 : Int) == 4096) = true := by simp [hfull]
                  have HFULL := hid hfull
                  clear hfull
                  gi_wp2
                  refine ⟨trivial, (calls_round HCALL.out).mono ?_⟩
                  rintro e w1 ⟨rfl, hb1⟩
                  obtain ⟨⟨d0, d1, e0, e1⟩, ⟨d2, e2⟩, ⟨d3, e3⟩, ⟨d4, e4⟩, ⟨d5, e5⟩⟩ := (fv_below HP.out.fv hb1).all
                  rw [HN0.out] at d1
                  rw [HC0.out] at d5
                  have HB1 := hid hb1
                  clear hb1 c0 c1 c2 c3 c4 c5 f0 f1 f2 f3 f4 f5 HCALL z0
                  gi_wp2
                  exact fin_err HP.out HB.out HB1.out (Moved.refl _ _ _) (fv_below HP.out.fv HB1.out) (step_full HLP.out HNUM.out HR.out HV0.out (HC0.out.trans HFULL.out)) (by decide) _ _
                · have hfd : ((C0 : Int) == 4096) = false := by simp; omega
                  have HFULL := hid hfull
                  clear hfull
                  gi_wp2
                  refine ⟨trivial, (calls_round HCALL.out).mono ?_⟩
                  rintro e w1 ⟨rfl, hb1⟩
                  obtain ⟨⟨d0, d1, e0, e1⟩, ⟨d2, e2⟩, ⟨d3, e3⟩, ⟨d4, e4⟩, ⟨d5, e5⟩⟩ := (fv_below HP.out.fv hb1).all
                  rw [HN0.out] at d1
                  rw [HC0.out] at d5
                  have HB1 := hid hb1
                  clear hb1 c0 c1 c2 c3 c4 c5 f0 f1 f2 f3 f4 f5 HCALL z0
                  have hA1 : CAcc (w.heap.size + 5) F w1 (.slice pv N0 kv) (.slice pc C0 kc) st.cls st.c := by rw [← HN0.out, ← HC0.out]; exact acc_below HP.out.acc HB1.out
                  have hrow := hA1.row
                  rw [HC0.out] at hrow
                  have hw1 : w.heap.size + 5 ≤ w1.heap.size := fv_lt (fv_below HP.out.fv HB1.out)
                  have HA1 := hid hA1; have HB1' := hid (show Bnd F w1 from HB.out.le HB1.out.size); have HUS := hid hrow; have HW1 := hid hw1
                  clear hA1 hrow hw1
                  gi_wp2_with (gi_at_builtin; refine wpListIn_appG _ rfl (.tmp 81) (.tmp 83) 34 rfl (w.heap.size + 5) 3 (.int .i64 0) 1 8 Tryd.underlying34 info_int rfl (by decide) (.slice pc C0 kc) C0 _ rfl (HUS.out.alloc _) ⟨w1.heap.size, 0, none⟩ 1 1 [.int .i64 v] rfl rfl (RowR.lit w1 [.int .i64 v] 3 rfl) (by simp [Value.oneCell']) (by have := HC4.out; omega) (by have := HC4.out; unfold maxLen; omega) (by have := HW1.out; rw [World.size_alloc]; omega) ?_; intro v4 w4 ho4 hg4 hv4; obtain ⟨p4, k4, rfl⟩ := own_sliceG ho4; obtain ⟨⟨d0, d1, e0, e1⟩, ⟨d2, e2⟩, ⟨d3, e3⟩, ⟨d4, e4⟩, ⟨d5, e5⟩⟩ := (fv_grown (fv_below HP.out.fv HB1.out) hg4 (fun k hk => (HUS.out.lt k hk).1)).all; rw [HN0.out] at d1; rw [HC0.out] at d5; have HO4 := hid ho4; have HG4 := hid hg4; have HV4 := hid hv4; clear ho4 hg4 hv4)
                  gi_wp2
                  have hk4 : Kept F W w4 := (Kept.below HB1.out HB.out).trans (kept_grown HB1'.out HG4.out (fun k hk => HA1.out.ncc k hk))
                  have ho4 : Below w.heap.size w w4 := old_grown (HP.out.old.trans (HB1.out.mono HP.out.old.size)) (by have := HW1.out; omega) HG4.out (fun k hk => by have := (HUS.out.lt k hk).1; omega)
                  have ha4 := HA1.out.push HB1'.out HG4.out (by rw [HC0.out]; exact HO4.out) HV4.out
                  have hf1 : Fv w.heap.size (.int .i64 st.vars) (.slice pv N0 kv) ln (.int .i64 0) (.int .i64 st.left) (.slice pc C0 kc) w1 := by rw [← HN0.out, ← HC0.out]; exact fv_below HP.out.fv HB1.out
                  have hf4 := fv_grown hf1 HG4.out (fun k hk => (HUS.out.lt k hk).1)
                  have hm4 := (Moved.refl w F w4).set (w.heap.size + 1 + 1 + 1 + 1) 0 (by omega) (.slice p4 (C0 + 1) k4)
                  exact fin_ok (st' := { st with c := st.c ++ [v] }) HP.out (hk4.trans (hm4.kept HP.out.oth)) (hm4.old ho4) (hf4.s5 (.slice p4 (C0 + 1) k4)) (hm4.acc ha4) (step_push HLP.out HNUM.out HR.out HV0.out (by rw [HC0.out]; exact HFULL.out))

end Go.Proofs.YtfllhhgnflpagaaDoor
