/-
 The law PolicyOrder.
-/
import Derived.Test.YtbijamcoibonkaaDoorBSPoY
import Derived.Test.YtbijamcoibonkaaDoorBB44
import Derived.Deep.DeepCutAuto
namespace Go.Proofs.YtbijamcoibonkaaDoor
set_option linter.unusedSimpArgs false
set_option linter.unusedVariables false
open Go.RowKit Go.Shelf
attribute [local go_sem] Oper.semAt_some
theorem few_w (p q:Po) (hq:fewPo p=q) (nl no nc ns:Nat) (h1:q.lv.length=nl) (h2:q.od.length=no) (h3:q.ch.length=nc) (h4:q.st.length=ns) (a b c d:Value) (w:World) (hp:PoV (·<w.heap.size) w a b c d p) :
  Calls Tryd.prog 6 #[.agg #[a,b,c,d,.bool p.sens,.int .i64 p.steps,.int .i64 p.paths,.int .i64 p.nodes,.int .i64 p.conf]] w fun e w'=>∃ qa xa qb xb qc xc qd xd,e = .returned (.agg #[.slice qa nl xa,.slice qb no xb,.slice qc nc xc,.slice qd ns xd,.bool q.sens,.int .i64 q.steps,.int .i64 q.paths,.int .i64 q.nodes,.int .i64 q.conf])∧PoG (w.heap.size+2) w' (.slice qa nl xa) (.slice qb no xb) (.slice qc nc xc) (.slice qd ns xd) q∧Below w.heap.size w w':=by
 subst hq h1 h2 h3 h4
 exact few_po p a b c d w hp
theorem check_w (q:Po) (k:Int) (hk:checkP q=k) (a b c d:Value) (w:World) (hp:PoV (·<w.heap.size) w a b c d q) (hs:PoS q) (hE:E28 w) :
  Calls Tryd.prog 7 #[.agg #[a,b,c,d,.bool q.sens,.int .i64 q.steps,.int .i64 q.paths,.int .i64 q.nodes,.int .i64 q.conf]] w fun e w'=>e = .returned (.int .i64 k)∧Below w.heap.size w w':=by
 subst hk
 exact check_po q a b c d w hp hs hE.po.bru
theorem few_s {p:Po} (h:PoS p):PoS (fewPo p):=⟨fun s hs=>h.lv s (List.mem_of_mem_take hs),fun s hs=>h.ch s (List.mem_of_mem_take hs),fun s hs=>h.st s (List.mem_of_mem_take hs)⟩
end Go.Proofs.YtbijamcoibonkaaDoor
