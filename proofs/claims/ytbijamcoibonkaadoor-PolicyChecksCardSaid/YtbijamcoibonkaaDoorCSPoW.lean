/-
 Policies held against each other.
-/
import Derived.Test.YtbijamcoibonkaaDoorCSPoI
import Derived.Deep.DeepCutAuto
namespace Go.Proofs.YtbijamcoibonkaaDoor
set_option linter.unusedSimpArgs false
set_option linter.unusedVariables false
open Go.RowKit Go.Shelf
attribute [local go_sem] Oper.semAt_some
theorem below_drewNQ (w:World) (n:Nat):Below w.heap.size w (w.drewN n):=⟨rfl,rfl,rfl,Nat.le_refl _,fun _ _=>rfl⟩
theorem po_ext {p q:Po} (h0:p.lv=q.lv) (h1:p.od=q.od) (h2:p.ch=q.ch) (h3:p.st=q.st) (h4:p.sens=q.sens) (h5:p.steps=q.steps) (h6:p.paths=q.paths) (h7:p.nodes=q.nodes) (h8:p.conf=q.conf):p=q:=by
 cases p;cases q;simp only at *;subst h0 h1 h2 h3 h4 h5 h6 h7 h8;rfl
set_option maxRecDepth 100000 in
set_option maxHeartbeats 4000000 in
theorem eqpo_0 (p q:Po) (pa pb pc pd qa qb qc qd:Option Addr) (nl no nc ns ml mo mc ms ca cb cc cd xa xb xc xd:Nat) (w:World) (hp:PoV (·<w.heap.size) w (.slice pa nl ca) (.slice pb no cb) (.slice pc nc cc) (.slice pd ns cd) p) (hq:PoV (·<w.heap.size) w (.slice qa ml xa) (.slice qb mo xb) (.slice qc mc xc) (.slice qd ms xd) q) (H0:Hid (decide (p.lv=q.lv)=false)) :
  Calls Tryd.prog 15 #[.agg #[.slice pa nl ca,.slice pb no cb,.slice pc nc cc,.slice pd ns cd,.bool p.sens,.int .i64 p.steps,.int .i64 p.paths,.int .i64 p.nodes,.int .i64 p.conf],.agg #[.slice qa ml xa,.slice qb mo xb,.slice qc mc xc,.slice qd ms xd,.bool q.sens,.int .i64 q.steps,.int .i64 q.paths,.int .i64 q.nodes,.int .i64 q.conf]] w fun e w'=>e = .returned (.bool false)∧Below w.heap.size w w':=by
 have HP:=hid hp;have HQ:=hid hq
 clear hp hq
 have HC0:=hid (fun W (hW:Below w.heap.size w W)=>show Calls Tryd.prog 41 #[.slice pa nl ca,.slice qa ml xa] W (fun e w'=>e = .returned (.bool false)∧∃ n,W.drewN n=w') from by rw [← H0.out];exact se_strs p.lv q.lv _ _ _ _ W (HP.out.1.below hW) (HQ.out.1.below hW))
 go_enter Tryd.func15,Tryd.ntmps15
 go_upto_region 1 with fail
 obtain ⟨w2,hw2⟩:∃ W,(w.alloc (.cells #[.slice pa nl ca,.slice pb no cb,.slice pc nc cc,.slice pd ns cd,.bool p.sens,.int .i64 p.steps,.int .i64 p.paths,.int .i64 p.nodes,.int .i64 p.conf] 26)).alloc (.cells #[.slice qa ml xa,.slice qb mo xb,.slice qc mc xc,.slice qd ms xd,.bool q.sens,.int .i64 q.steps,.int .i64 q.paths,.int .i64 q.nodes,.int .i64 q.conf] 26)=W:=⟨_,rfl⟩
 have HB2:=hid (show Below w.heap.size w w2 from by rw [← hw2];exact ((Below.refl _ _).alloc (Nat.le_refl _) _).alloc (by rw [World.size_alloc];omega) _)
 have HX:=hid (show BxL 26 w.heap.size [.slice pa nl ca,.slice pb no cb,.slice pc nc cc,.slice pd ns cd,.bool p.sens,.int .i64 p.steps,.int .i64 p.paths,.int .i64 p.nodes,.int .i64 p.conf] w2 from by rw [← hw2];exact (BxL.new _ _ _).al _)
 have HY:=hid (show BxL 26 (w.heap.size+1) [.slice qa ml xa,.slice qb mo xb,.slice qc mc xc,.slice qd ms xd,.bool q.sens,.int .i64 q.steps,.int .i64 q.paths,.int .i64 q.nodes,.int .i64 q.conf] w2 from by rw [← hw2];have h9:=BxL.new 26 (w.alloc (.cells #[.slice pa nl ca,.slice pb no cb,.slice pc nc cc,.slice pd ns cd,.bool p.sens,.int .i64 p.steps,.int .i64 p.paths,.int .i64 p.nodes,.int .i64 p.conf] 26)) [.slice qa ml xa,.slice qb mo xb,.slice qc mc xc,.slice qd ms xd,.bool q.sens,.int .i64 q.steps,.int .i64 q.paths,.int .i64 q.nodes,.int .i64 q.conf];rw [World.size_alloc] at h9;exact h9)
 rw [hw2]
 clear hw2
 have xa0:∀ m,(w2.drewN m).cell? ⟨w.heap.size,0,none⟩=some (.slice pa nl ca):=fun m=>HX.out.at 0 rfl
 have xb0:w2.cell? ⟨w.heap.size,0,none⟩=some (.slice pa nl ca):=HX.out.at 0 rfl
 have xa1:∀ m,(w2.drewN m).cell? ⟨w.heap.size,1,none⟩=some (.slice pb no cb):=fun m=>HX.out.at 1 rfl
 have xb1:w2.cell? ⟨w.heap.size,1,none⟩=some (.slice pb no cb):=HX.out.at 1 rfl
 have xa2:∀ m,(w2.drewN m).cell? ⟨w.heap.size,2,none⟩=some (.slice pc nc cc):=fun m=>HX.out.at 2 rfl
 have xb2:w2.cell? ⟨w.heap.size,2,none⟩=some (.slice pc nc cc):=HX.out.at 2 rfl
 have xa3:∀ m,(w2.drewN m).cell? ⟨w.heap.size,3,none⟩=some (.slice pd ns cd):=fun m=>HX.out.at 3 rfl
 have xb3:w2.cell? ⟨w.heap.size,3,none⟩=some (.slice pd ns cd):=HX.out.at 3 rfl
 have xa4:∀ m,(w2.drewN m).cell? ⟨w.heap.size,4,none⟩=some (.bool p.sens):=fun m=>HX.out.at 4 rfl
 have xb4:w2.cell? ⟨w.heap.size,4,none⟩=some (.bool p.sens):=HX.out.at 4 rfl
 have xa5:∀ m,(w2.drewN m).cell? ⟨w.heap.size,5,none⟩=some (.int .i64 p.steps):=fun m=>HX.out.at 5 rfl
 have xb5:w2.cell? ⟨w.heap.size,5,none⟩=some (.int .i64 p.steps):=HX.out.at 5 rfl
 have xa6:∀ m,(w2.drewN m).cell? ⟨w.heap.size,6,none⟩=some (.int .i64 p.paths):=fun m=>HX.out.at 6 rfl
 have xb6:w2.cell? ⟨w.heap.size,6,none⟩=some (.int .i64 p.paths):=HX.out.at 6 rfl
 have xa7:∀ m,(w2.drewN m).cell? ⟨w.heap.size,7,none⟩=some (.int .i64 p.nodes):=fun m=>HX.out.at 7 rfl
 have xb7:w2.cell? ⟨w.heap.size,7,none⟩=some (.int .i64 p.nodes):=HX.out.at 7 rfl
 have xa8:∀ m,(w2.drewN m).cell? ⟨w.heap.size,8,none⟩=some (.int .i64 p.conf):=fun m=>HX.out.at 8 rfl
 have xb8:w2.cell? ⟨w.heap.size,8,none⟩=some (.int .i64 p.conf):=HX.out.at 8 rfl
 have ya0:∀ m,(w2.drewN m).cell? ⟨w.heap.size+1,0,none⟩=some (.slice qa ml xa):=fun m=>HY.out.at 0 rfl
 have yb0:w2.cell? ⟨w.heap.size+1,0,none⟩=some (.slice qa ml xa):=HY.out.at 0 rfl
 have ya1:∀ m,(w2.drewN m).cell? ⟨w.heap.size+1,1,none⟩=some (.slice qb mo xb):=fun m=>HY.out.at 1 rfl
 have yb1:w2.cell? ⟨w.heap.size+1,1,none⟩=some (.slice qb mo xb):=HY.out.at 1 rfl
 have ya2:∀ m,(w2.drewN m).cell? ⟨w.heap.size+1,2,none⟩=some (.slice qc mc xc):=fun m=>HY.out.at 2 rfl
 have yb2:w2.cell? ⟨w.heap.size+1,2,none⟩=some (.slice qc mc xc):=HY.out.at 2 rfl
 have ya3:∀ m,(w2.drewN m).cell? ⟨w.heap.size+1,3,none⟩=some (.slice qd ms xd):=fun m=>HY.out.at 3 rfl
 have yb3:w2.cell? ⟨w.heap.size+1,3,none⟩=some (.slice qd ms xd):=HY.out.at 3 rfl
 have ya4:∀ m,(w2.drewN m).cell? ⟨w.heap.size+1,4,none⟩=some (.bool q.sens):=fun m=>HY.out.at 4 rfl
 have yb4:w2.cell? ⟨w.heap.size+1,4,none⟩=some (.bool q.sens):=HY.out.at 4 rfl
 have ya5:∀ m,(w2.drewN m).cell? ⟨w.heap.size+1,5,none⟩=some (.int .i64 q.steps):=fun m=>HY.out.at 5 rfl
 have yb5:w2.cell? ⟨w.heap.size+1,5,none⟩=some (.int .i64 q.steps):=HY.out.at 5 rfl
 have ya6:∀ m,(w2.drewN m).cell? ⟨w.heap.size+1,6,none⟩=some (.int .i64 q.paths):=fun m=>HY.out.at 6 rfl
 have yb6:w2.cell? ⟨w.heap.size+1,6,none⟩=some (.int .i64 q.paths):=HY.out.at 6 rfl
 have ya7:∀ m,(w2.drewN m).cell? ⟨w.heap.size+1,7,none⟩=some (.int .i64 q.nodes):=fun m=>HY.out.at 7 rfl
 have yb7:w2.cell? ⟨w.heap.size+1,7,none⟩=some (.int .i64 q.nodes):=HY.out.at 7 rfl
 have ya8:∀ m,(w2.drewN m).cell? ⟨w.heap.size+1,8,none⟩=some (.int .i64 q.conf):=fun m=>HY.out.at 8 rfl
 have yb8:w2.cell? ⟨w.heap.size+1,8,none⟩=some (.int .i64 q.conf):=HY.out.at 8 rfl
 go_wp2_with (first
  | (go_at_call 41;(with_reducible refine (HC0.out _ HB2.out).mono ?_);rintro e w3 ⟨rfl,n0,rfl⟩;have HW0:=hid (show Below w.heap.size w (w2.drewN (n0)) from HB2.out.trans ((below_drewNQ w2 _).mono HB2.out.size))))
 go_ret
 exact ⟨rfl,HW0.out⟩
set_option maxRecDepth 100000 in
set_option maxHeartbeats 4000000 in
theorem eqpo_1 (p q:Po) (pa pb pc pd qa qb qc qd:Option Addr) (nl no nc ns ml mo mc ms ca cb cc cd xa xb xc xd:Nat) (w:World) (hp:PoV (·<w.heap.size) w (.slice pa nl ca) (.slice pb no cb) (.slice pc nc cc) (.slice pd ns cd) p) (hq:PoV (·<w.heap.size) w (.slice qa ml xa) (.slice qb mo xb) (.slice qc mc xc) (.slice qd ms xd) q) (H0:Hid (decide (p.lv=q.lv)=true)) (H1:Hid (decide (p.od=q.od)=false)) :
  Calls Tryd.prog 15 #[.agg #[.slice pa nl ca,.slice pb no cb,.slice pc nc cc,.slice pd ns cd,.bool p.sens,.int .i64 p.steps,.int .i64 p.paths,.int .i64 p.nodes,.int .i64 p.conf],.agg #[.slice qa ml xa,.slice qb mo xb,.slice qc mc xc,.slice qd ms xd,.bool q.sens,.int .i64 q.steps,.int .i64 q.paths,.int .i64 q.nodes,.int .i64 q.conf]] w fun e w'=>e = .returned (.bool false)∧Below w.heap.size w w':=by
 have HP:=hid hp;have HQ:=hid hq
 clear hp hq
 have HC0:=hid (fun W (hW:Below w.heap.size w W)=>show Calls Tryd.prog 41 #[.slice pa nl ca,.slice qa ml xa] W (fun e w'=>e = .returned (.bool true)∧∃ n,W.drewN n=w') from by rw [← H0.out];exact se_strs p.lv q.lv _ _ _ _ W (HP.out.1.below hW) (HQ.out.1.below hW))
 have HC1:=hid (fun W (hW:Below w.heap.size w W)=>show Calls Tryd.prog 42 #[.slice pb no cb,.slice qb mo xb] W (fun e w'=>e = .returned (.bool false)∧∃ n,W.drewN n=w') from by rw [← H1.out];exact se_pairs p.od q.od _ _ _ _ W (HP.out.2.1.below hW) (HQ.out.2.1.below hW))
 go_enter Tryd.func15,Tryd.ntmps15
 go_upto_region 1 with fail
 obtain ⟨w2,hw2⟩:∃ W,(w.alloc (.cells #[.slice pa nl ca,.slice pb no cb,.slice pc nc cc,.slice pd ns cd,.bool p.sens,.int .i64 p.steps,.int .i64 p.paths,.int .i64 p.nodes,.int .i64 p.conf] 26)).alloc (.cells #[.slice qa ml xa,.slice qb mo xb,.slice qc mc xc,.slice qd ms xd,.bool q.sens,.int .i64 q.steps,.int .i64 q.paths,.int .i64 q.nodes,.int .i64 q.conf] 26)=W:=⟨_,rfl⟩
 have HB2:=hid (show Below w.heap.size w w2 from by rw [← hw2];exact ((Below.refl _ _).alloc (Nat.le_refl _) _).alloc (by rw [World.size_alloc];omega) _)
 have HX:=hid (show BxL 26 w.heap.size [.slice pa nl ca,.slice pb no cb,.slice pc nc cc,.slice pd ns cd,.bool p.sens,.int .i64 p.steps,.int .i64 p.paths,.int .i64 p.nodes,.int .i64 p.conf] w2 from by rw [← hw2];exact (BxL.new _ _ _).al _)
 have HY:=hid (show BxL 26 (w.heap.size+1) [.slice qa ml xa,.slice qb mo xb,.slice qc mc xc,.slice qd ms xd,.bool q.sens,.int .i64 q.steps,.int .i64 q.paths,.int .i64 q.nodes,.int .i64 q.conf] w2 from by rw [← hw2];have h9:=BxL.new 26 (w.alloc (.cells #[.slice pa nl ca,.slice pb no cb,.slice pc nc cc,.slice pd ns cd,.bool p.sens,.int .i64 p.steps,.int .i64 p.paths,.int .i64 p.nodes,.int .i64 p.conf] 26)) [.slice qa ml xa,.slice qb mo xb,.slice qc mc xc,.slice qd ms xd,.bool q.sens,.int .i64 q.steps,.int .i64 q.paths,.int .i64 q.nodes,.int .i64 q.conf];rw [World.size_alloc] at h9;exact h9)
 rw [hw2]
 clear hw2
 have xa0:∀ m,(w2.drewN m).cell? ⟨w.heap.size,0,none⟩=some (.slice pa nl ca):=fun m=>HX.out.at 0 rfl
 have xb0:w2.cell? ⟨w.heap.size,0,none⟩=some (.slice pa nl ca):=HX.out.at 0 rfl
 have xa1:∀ m,(w2.drewN m).cell? ⟨w.heap.size,1,none⟩=some (.slice pb no cb):=fun m=>HX.out.at 1 rfl
 have xb1:w2.cell? ⟨w.heap.size,1,none⟩=some (.slice pb no cb):=HX.out.at 1 rfl
 have xa2:∀ m,(w2.drewN m).cell? ⟨w.heap.size,2,none⟩=some (.slice pc nc cc):=fun m=>HX.out.at 2 rfl
 have xb2:w2.cell? ⟨w.heap.size,2,none⟩=some (.slice pc nc cc):=HX.out.at 2 rfl
 have xa3:∀ m,(w2.drewN m).cell? ⟨w.heap.size,3,none⟩=some (.slice pd ns cd):=fun m=>HX.out.at 3 rfl
 have xb3:w2.cell? ⟨w.heap.size,3,none⟩=some (.slice pd ns cd):=HX.out.at 3 rfl
 have xa4:∀ m,(w2.drewN m).cell? ⟨w.heap.size,4,none⟩=some (.bool p.sens):=fun m=>HX.out.at 4 rfl
 have xb4:w2.cell? ⟨w.heap.size,4,none⟩=some (.bool p.sens):=HX.out.at 4 rfl
 have xa5:∀ m,(w2.drewN m).cell? ⟨w.heap.size,5,none⟩=some (.int .i64 p.steps):=fun m=>HX.out.at 5 rfl
 have xb5:w2.cell? ⟨w.heap.size,5,none⟩=some (.int .i64 p.steps):=HX.out.at 5 rfl
 have xa6:∀ m,(w2.drewN m).cell? ⟨w.heap.size,6,none⟩=some (.int .i64 p.paths):=fun m=>HX.out.at 6 rfl
 have xb6:w2.cell? ⟨w.heap.size,6,none⟩=some (.int .i64 p.paths):=HX.out.at 6 rfl
 have xa7:∀ m,(w2.drewN m).cell? ⟨w.heap.size,7,none⟩=some (.int .i64 p.nodes):=fun m=>HX.out.at 7 rfl
 have xb7:w2.cell? ⟨w.heap.size,7,none⟩=some (.int .i64 p.nodes):=HX.out.at 7 rfl
 have xa8:∀ m,(w2.drewN m).cell? ⟨w.heap.size,8,none⟩=some (.int .i64 p.conf):=fun m=>HX.out.at 8 rfl
 have xb8:w2.cell? ⟨w.heap.size,8,none⟩=some (.int .i64 p.conf):=HX.out.at 8 rfl
 have ya0:∀ m,(w2.drewN m).cell? ⟨w.heap.size+1,0,none⟩=some (.slice qa ml xa):=fun m=>HY.out.at 0 rfl
 have yb0:w2.cell? ⟨w.heap.size+1,0,none⟩=some (.slice qa ml xa):=HY.out.at 0 rfl
 have ya1:∀ m,(w2.drewN m).cell? ⟨w.heap.size+1,1,none⟩=some (.slice qb mo xb):=fun m=>HY.out.at 1 rfl
 have yb1:w2.cell? ⟨w.heap.size+1,1,none⟩=some (.slice qb mo xb):=HY.out.at 1 rfl
 have ya2:∀ m,(w2.drewN m).cell? ⟨w.heap.size+1,2,none⟩=some (.slice qc mc xc):=fun m=>HY.out.at 2 rfl
 have yb2:w2.cell? ⟨w.heap.size+1,2,none⟩=some (.slice qc mc xc):=HY.out.at 2 rfl
 have ya3:∀ m,(w2.drewN m).cell? ⟨w.heap.size+1,3,none⟩=some (.slice qd ms xd):=fun m=>HY.out.at 3 rfl
 have yb3:w2.cell? ⟨w.heap.size+1,3,none⟩=some (.slice qd ms xd):=HY.out.at 3 rfl
 have ya4:∀ m,(w2.drewN m).cell? ⟨w.heap.size+1,4,none⟩=some (.bool q.sens):=fun m=>HY.out.at 4 rfl
 have yb4:w2.cell? ⟨w.heap.size+1,4,none⟩=some (.bool q.sens):=HY.out.at 4 rfl
 have ya5:∀ m,(w2.drewN m).cell? ⟨w.heap.size+1,5,none⟩=some (.int .i64 q.steps):=fun m=>HY.out.at 5 rfl
 have yb5:w2.cell? ⟨w.heap.size+1,5,none⟩=some (.int .i64 q.steps):=HY.out.at 5 rfl
 have ya6:∀ m,(w2.drewN m).cell? ⟨w.heap.size+1,6,none⟩=some (.int .i64 q.paths):=fun m=>HY.out.at 6 rfl
 have yb6:w2.cell? ⟨w.heap.size+1,6,none⟩=some (.int .i64 q.paths):=HY.out.at 6 rfl
 have ya7:∀ m,(w2.drewN m).cell? ⟨w.heap.size+1,7,none⟩=some (.int .i64 q.nodes):=fun m=>HY.out.at 7 rfl
 have yb7:w2.cell? ⟨w.heap.size+1,7,none⟩=some (.int .i64 q.nodes):=HY.out.at 7 rfl
 have ya8:∀ m,(w2.drewN m).cell? ⟨w.heap.size+1,8,none⟩=some (.int .i64 q.conf):=fun m=>HY.out.at 8 rfl
 have yb8:w2.cell? ⟨w.heap.size+1,8,none⟩=some (.int .i64 q.conf):=HY.out.at 8 rfl
 go_wp2_with (first
  | (go_at_call 41;(with_reducible refine (HC0.out _ HB2.out).mono ?_);rintro e w3 ⟨rfl,n0,rfl⟩;have HW0:=hid (show Below w.heap.size w (w2.drewN (n0)) from HB2.out.trans ((below_drewNQ w2 _).mono HB2.out.size)))
  | (go_at_call 42;(with_reducible refine (HC1.out _ HW0.out).mono ?_);rintro e w3 ⟨rfl,n1,rfl⟩;have HW1:=hid (show Below w.heap.size w (w2.drewN (n0+n1)) from HB2.out.trans ((below_drewNQ w2 _).mono HB2.out.size))))
 go_ret
 exact ⟨rfl,HW1.out⟩
set_option maxRecDepth 100000 in
set_option maxHeartbeats 4000000 in
theorem eqpo_2 (p q:Po) (pa pb pc pd qa qb qc qd:Option Addr) (nl no nc ns ml mo mc ms ca cb cc cd xa xb xc xd:Nat) (w:World) (hp:PoV (·<w.heap.size) w (.slice pa nl ca) (.slice pb no cb) (.slice pc nc cc) (.slice pd ns cd) p) (hq:PoV (·<w.heap.size) w (.slice qa ml xa) (.slice qb mo xb) (.slice qc mc xc) (.slice qd ms xd) q) (H0:Hid (decide (p.lv=q.lv)=true)) (H1:Hid (decide (p.od=q.od)=true)) (H2:Hid (decide (p.ch=q.ch)=false)) :
  Calls Tryd.prog 15 #[.agg #[.slice pa nl ca,.slice pb no cb,.slice pc nc cc,.slice pd ns cd,.bool p.sens,.int .i64 p.steps,.int .i64 p.paths,.int .i64 p.nodes,.int .i64 p.conf],.agg #[.slice qa ml xa,.slice qb mo xb,.slice qc mc xc,.slice qd ms xd,.bool q.sens,.int .i64 q.steps,.int .i64 q.paths,.int .i64 q.nodes,.int .i64 q.conf]] w fun e w'=>e = .returned (.bool false)∧Below w.heap.size w w':=by
 have HP:=hid hp;have HQ:=hid hq
 clear hp hq
 have HC0:=hid (fun W (hW:Below w.heap.size w W)=>show Calls Tryd.prog 41 #[.slice pa nl ca,.slice qa ml xa] W (fun e w'=>e = .returned (.bool true)∧∃ n,W.drewN n=w') from by rw [← H0.out];exact se_strs p.lv q.lv _ _ _ _ W (HP.out.1.below hW) (HQ.out.1.below hW))
 have HC1:=hid (fun W (hW:Below w.heap.size w W)=>show Calls Tryd.prog 42 #[.slice pb no cb,.slice qb mo xb] W (fun e w'=>e = .returned (.bool true)∧∃ n,W.drewN n=w') from by rw [← H1.out];exact se_pairs p.od q.od _ _ _ _ W (HP.out.2.1.below hW) (HQ.out.2.1.below hW))
 have HC2:=hid (fun W (hW:Below w.heap.size w W)=>show Calls Tryd.prog 43 #[.slice pc nc cc,.slice qc mc xc] W (fun e w'=>e = .returned (.bool false)∧∃ n,W.drewN n=w') from by rw [← H2.out];exact se_binds p.ch q.ch _ _ _ _ W (HP.out.2.2.1.below hW) (HQ.out.2.2.1.below hW))
 go_enter Tryd.func15,Tryd.ntmps15
 go_upto_region 1 with fail
 obtain ⟨w2,hw2⟩:∃ W,(w.alloc (.cells #[.slice pa nl ca,.slice pb no cb,.slice pc nc cc,.slice pd ns cd,.bool p.sens,.int .i64 p.steps,.int .i64 p.paths,.int .i64 p.nodes,.int .i64 p.conf] 26)).alloc (.cells #[.slice qa ml xa,.slice qb mo xb,.slice qc mc xc,.slice qd ms xd,.bool q.sens,.int .i64 q.steps,.int .i64 q.paths,.int .i64 q.nodes,.int .i64 q.conf] 26)=W:=⟨_,rfl⟩
 have HB2:=hid (show Below w.heap.size w w2 from by rw [← hw2];exact ((Below.refl _ _).alloc (Nat.le_refl _) _).alloc (by rw [World.size_alloc];omega) _)
 have HX:=hid (show BxL 26 w.heap.size [.slice pa nl ca,.slice pb no cb,.slice pc nc cc,.slice pd ns cd,.bool p.sens,.int .i64 p.steps,.int .i64 p.paths,.int .i64 p.nodes,.int .i64 p.conf] w2 from by rw [← hw2];exact (BxL.new _ _ _).al _)
 have HY:=hid (show BxL 26 (w.heap.size+1) [.slice qa ml xa,.slice qb mo xb,.slice qc mc xc,.slice qd ms xd,.bool q.sens,.int .i64 q.steps,.int .i64 q.paths,.int .i64 q.nodes,.int .i64 q.conf] w2 from by rw [← hw2];have h9:=BxL.new 26 (w.alloc (.cells #[.slice pa nl ca,.slice pb no cb,.slice pc nc cc,.slice pd ns cd,.bool p.sens,.int .i64 p.steps,.int .i64 p.paths,.int .i64 p.nodes,.int .i64 p.conf] 26)) [.slice qa ml xa,.slice qb mo xb,.slice qc mc xc,.slice qd ms xd,.bool q.sens,.int .i64 q.steps,.int .i64 q.paths,.int .i64 q.nodes,.int .i64 q.conf];rw [World.size_alloc] at h9;exact h9)
 rw [hw2]
 clear hw2
 have xa0:∀ m,(w2.drewN m).cell? ⟨w.heap.size,0,none⟩=some (.slice pa nl ca):=fun m=>HX.out.at 0 rfl
 have xb0:w2.cell? ⟨w.heap.size,0,none⟩=some (.slice pa nl ca):=HX.out.at 0 rfl
 have xa1:∀ m,(w2.drewN m).cell? ⟨w.heap.size,1,none⟩=some (.slice pb no cb):=fun m=>HX.out.at 1 rfl
 have xb1:w2.cell? ⟨w.heap.size,1,none⟩=some (.slice pb no cb):=HX.out.at 1 rfl
 have xa2:∀ m,(w2.drewN m).cell? ⟨w.heap.size,2,none⟩=some (.slice pc nc cc):=fun m=>HX.out.at 2 rfl
 have xb2:w2.cell? ⟨w.heap.size,2,none⟩=some (.slice pc nc cc):=HX.out.at 2 rfl
 have xa3:∀ m,(w2.drewN m).cell? ⟨w.heap.size,3,none⟩=some (.slice pd ns cd):=fun m=>HX.out.at 3 rfl
 have xb3:w2.cell? ⟨w.heap.size,3,none⟩=some (.slice pd ns cd):=HX.out.at 3 rfl
 have xa4:∀ m,(w2.drewN m).cell? ⟨w.heap.size,4,none⟩=some (.bool p.sens):=fun m=>HX.out.at 4 rfl
 have xb4:w2.cell? ⟨w.heap.size,4,none⟩=some (.bool p.sens):=HX.out.at 4 rfl
 have xa5:∀ m,(w2.drewN m).cell? ⟨w.heap.size,5,none⟩=some (.int .i64 p.steps):=fun m=>HX.out.at 5 rfl
 have xb5:w2.cell? ⟨w.heap.size,5,none⟩=some (.int .i64 p.steps):=HX.out.at 5 rfl
 have xa6:∀ m,(w2.drewN m).cell? ⟨w.heap.size,6,none⟩=some (.int .i64 p.paths):=fun m=>HX.out.at 6 rfl
 have xb6:w2.cell? ⟨w.heap.size,6,none⟩=some (.int .i64 p.paths):=HX.out.at 6 rfl
 have xa7:∀ m,(w2.drewN m).cell? ⟨w.heap.size,7,none⟩=some (.int .i64 p.nodes):=fun m=>HX.out.at 7 rfl
 have xb7:w2.cell? ⟨w.heap.size,7,none⟩=some (.int .i64 p.nodes):=HX.out.at 7 rfl
 have xa8:∀ m,(w2.drewN m).cell? ⟨w.heap.size,8,none⟩=some (.int .i64 p.conf):=fun m=>HX.out.at 8 rfl
 have xb8:w2.cell? ⟨w.heap.size,8,none⟩=some (.int .i64 p.conf):=HX.out.at 8 rfl
 have ya0:∀ m,(w2.drewN m).cell? ⟨w.heap.size+1,0,none⟩=some (.slice qa ml xa):=fun m=>HY.out.at 0 rfl
 have yb0:w2.cell? ⟨w.heap.size+1,0,none⟩=some (.slice qa ml xa):=HY.out.at 0 rfl
 have ya1:∀ m,(w2.drewN m).cell? ⟨w.heap.size+1,1,none⟩=some (.slice qb mo xb):=fun m=>HY.out.at 1 rfl
 have yb1:w2.cell? ⟨w.heap.size+1,1,none⟩=some (.slice qb mo xb):=HY.out.at 1 rfl
 have ya2:∀ m,(w2.drewN m).cell? ⟨w.heap.size+1,2,none⟩=some (.slice qc mc xc):=fun m=>HY.out.at 2 rfl
 have yb2:w2.cell? ⟨w.heap.size+1,2,none⟩=some (.slice qc mc xc):=HY.out.at 2 rfl
 have ya3:∀ m,(w2.drewN m).cell? ⟨w.heap.size+1,3,none⟩=some (.slice qd ms xd):=fun m=>HY.out.at 3 rfl
 have yb3:w2.cell? ⟨w.heap.size+1,3,none⟩=some (.slice qd ms xd):=HY.out.at 3 rfl
 have ya4:∀ m,(w2.drewN m).cell? ⟨w.heap.size+1,4,none⟩=some (.bool q.sens):=fun m=>HY.out.at 4 rfl
 have yb4:w2.cell? ⟨w.heap.size+1,4,none⟩=some (.bool q.sens):=HY.out.at 4 rfl
 have ya5:∀ m,(w2.drewN m).cell? ⟨w.heap.size+1,5,none⟩=some (.int .i64 q.steps):=fun m=>HY.out.at 5 rfl
 have yb5:w2.cell? ⟨w.heap.size+1,5,none⟩=some (.int .i64 q.steps):=HY.out.at 5 rfl
 have ya6:∀ m,(w2.drewN m).cell? ⟨w.heap.size+1,6,none⟩=some (.int .i64 q.paths):=fun m=>HY.out.at 6 rfl
 have yb6:w2.cell? ⟨w.heap.size+1,6,none⟩=some (.int .i64 q.paths):=HY.out.at 6 rfl
 have ya7:∀ m,(w2.drewN m).cell? ⟨w.heap.size+1,7,none⟩=some (.int .i64 q.nodes):=fun m=>HY.out.at 7 rfl
 have yb7:w2.cell? ⟨w.heap.size+1,7,none⟩=some (.int .i64 q.nodes):=HY.out.at 7 rfl
 have ya8:∀ m,(w2.drewN m).cell? ⟨w.heap.size+1,8,none⟩=some (.int .i64 q.conf):=fun m=>HY.out.at 8 rfl
 have yb8:w2.cell? ⟨w.heap.size+1,8,none⟩=some (.int .i64 q.conf):=HY.out.at 8 rfl
 go_wp2_with (first
  | (go_at_call 41;(with_reducible refine (HC0.out _ HB2.out).mono ?_);rintro e w3 ⟨rfl,n0,rfl⟩;have HW0:=hid (show Below w.heap.size w (w2.drewN (n0)) from HB2.out.trans ((below_drewNQ w2 _).mono HB2.out.size)))
  | (go_at_call 42;(with_reducible refine (HC1.out _ HW0.out).mono ?_);rintro e w3 ⟨rfl,n1,rfl⟩;have HW1:=hid (show Below w.heap.size w (w2.drewN (n0+n1)) from HB2.out.trans ((below_drewNQ w2 _).mono HB2.out.size)))
  | (go_at_call 43;(with_reducible refine (HC2.out _ HW1.out).mono ?_);rintro e w3 ⟨rfl,n2,rfl⟩;have HW2:=hid (show Below w.heap.size w (w2.drewN (n0+n1+n2)) from HB2.out.trans ((below_drewNQ w2 _).mono HB2.out.size))))
 go_ret
 exact ⟨rfl,HW2.out⟩
set_option maxRecDepth 100000 in
set_option maxHeartbeats 4000000 in
theorem eqpo_3 (p q:Po) (pa pb pc pd qa qb qc qd:Option Addr) (nl no nc ns ml mo mc ms ca cb cc cd xa xb xc xd:Nat) (w:World) (hp:PoV (·<w.heap.size) w (.slice pa nl ca) (.slice pb no cb) (.slice pc nc cc) (.slice pd ns cd) p) (hq:PoV (·<w.heap.size) w (.slice qa ml xa) (.slice qb mo xb) (.slice qc mc xc) (.slice qd ms xd) q) (H0:Hid (decide (p.lv=q.lv)=true)) (H1:Hid (decide (p.od=q.od)=true)) (H2:Hid (decide (p.ch=q.ch)=true)) (H3:Hid (decide (p.st=q.st)=false)) :
  Calls Tryd.prog 15 #[.agg #[.slice pa nl ca,.slice pb no cb,.slice pc nc cc,.slice pd ns cd,.bool p.sens,.int .i64 p.steps,.int .i64 p.paths,.int .i64 p.nodes,.int .i64 p.conf],.agg #[.slice qa ml xa,.slice qb mo xb,.slice qc mc xc,.slice qd ms xd,.bool q.sens,.int .i64 q.steps,.int .i64 q.paths,.int .i64 q.nodes,.int .i64 q.conf]] w fun e w'=>e = .returned (.bool false)∧Below w.heap.size w w':=by
 have HP:=hid hp;have HQ:=hid hq
 clear hp hq
 have HC0:=hid (fun W (hW:Below w.heap.size w W)=>show Calls Tryd.prog 41 #[.slice pa nl ca,.slice qa ml xa] W (fun e w'=>e = .returned (.bool true)∧∃ n,W.drewN n=w') from by rw [← H0.out];exact se_strs p.lv q.lv _ _ _ _ W (HP.out.1.below hW) (HQ.out.1.below hW))
 have HC1:=hid (fun W (hW:Below w.heap.size w W)=>show Calls Tryd.prog 42 #[.slice pb no cb,.slice qb mo xb] W (fun e w'=>e = .returned (.bool true)∧∃ n,W.drewN n=w') from by rw [← H1.out];exact se_pairs p.od q.od _ _ _ _ W (HP.out.2.1.below hW) (HQ.out.2.1.below hW))
 have HC2:=hid (fun W (hW:Below w.heap.size w W)=>show Calls Tryd.prog 43 #[.slice pc nc cc,.slice qc mc xc] W (fun e w'=>e = .returned (.bool true)∧∃ n,W.drewN n=w') from by rw [← H2.out];exact se_binds p.ch q.ch _ _ _ _ W (HP.out.2.2.1.below hW) (HQ.out.2.2.1.below hW))
 have HC3:=hid (fun W (hW:Below w.heap.size w W)=>show Calls Tryd.prog 43 #[.slice pd ns cd,.slice qd ms xd] W (fun e w'=>e = .returned (.bool false)∧∃ n,W.drewN n=w') from by rw [← H3.out];exact se_binds p.st q.st _ _ _ _ W (HP.out.2.2.2.below hW) (HQ.out.2.2.2.below hW))
 go_enter Tryd.func15,Tryd.ntmps15
 go_upto_region 1 with fail
 obtain ⟨w2,hw2⟩:∃ W,(w.alloc (.cells #[.slice pa nl ca,.slice pb no cb,.slice pc nc cc,.slice pd ns cd,.bool p.sens,.int .i64 p.steps,.int .i64 p.paths,.int .i64 p.nodes,.int .i64 p.conf] 26)).alloc (.cells #[.slice qa ml xa,.slice qb mo xb,.slice qc mc xc,.slice qd ms xd,.bool q.sens,.int .i64 q.steps,.int .i64 q.paths,.int .i64 q.nodes,.int .i64 q.conf] 26)=W:=⟨_,rfl⟩
 have HB2:=hid (show Below w.heap.size w w2 from by rw [← hw2];exact ((Below.refl _ _).alloc (Nat.le_refl _) _).alloc (by rw [World.size_alloc];omega) _)
 have HX:=hid (show BxL 26 w.heap.size [.slice pa nl ca,.slice pb no cb,.slice pc nc cc,.slice pd ns cd,.bool p.sens,.int .i64 p.steps,.int .i64 p.paths,.int .i64 p.nodes,.int .i64 p.conf] w2 from by rw [← hw2];exact (BxL.new _ _ _).al _)
 have HY:=hid (show BxL 26 (w.heap.size+1) [.slice qa ml xa,.slice qb mo xb,.slice qc mc xc,.slice qd ms xd,.bool q.sens,.int .i64 q.steps,.int .i64 q.paths,.int .i64 q.nodes,.int .i64 q.conf] w2 from by rw [← hw2];have h9:=BxL.new 26 (w.alloc (.cells #[.slice pa nl ca,.slice pb no cb,.slice pc nc cc,.slice pd ns cd,.bool p.sens,.int .i64 p.steps,.int .i64 p.paths,.int .i64 p.nodes,.int .i64 p.conf] 26)) [.slice qa ml xa,.slice qb mo xb,.slice qc mc xc,.slice qd ms xd,.bool q.sens,.int .i64 q.steps,.int .i64 q.paths,.int .i64 q.nodes,.int .i64 q.conf];rw [World.size_alloc] at h9;exact h9)
 rw [hw2]
 clear hw2
 have xa0:∀ m,(w2.drewN m).cell? ⟨w.heap.size,0,none⟩=some (.slice pa nl ca):=fun m=>HX.out.at 0 rfl
 have xb0:w2.cell? ⟨w.heap.size,0,none⟩=some (.slice pa nl ca):=HX.out.at 0 rfl
 have xa1:∀ m,(w2.drewN m).cell? ⟨w.heap.size,1,none⟩=some (.slice pb no cb):=fun m=>HX.out.at 1 rfl
 have xb1:w2.cell? ⟨w.heap.size,1,none⟩=some (.slice pb no cb):=HX.out.at 1 rfl
 have xa2:∀ m,(w2.drewN m).cell? ⟨w.heap.size,2,none⟩=some (.slice pc nc cc):=fun m=>HX.out.at 2 rfl
 have xb2:w2.cell? ⟨w.heap.size,2,none⟩=some (.slice pc nc cc):=HX.out.at 2 rfl
 have xa3:∀ m,(w2.drewN m).cell? ⟨w.heap.size,3,none⟩=some (.slice pd ns cd):=fun m=>HX.out.at 3 rfl
 have xb3:w2.cell? ⟨w.heap.size,3,none⟩=some (.slice pd ns cd):=HX.out.at 3 rfl
 have xa4:∀ m,(w2.drewN m).cell? ⟨w.heap.size,4,none⟩=some (.bool p.sens):=fun m=>HX.out.at 4 rfl
 have xb4:w2.cell? ⟨w.heap.size,4,none⟩=some (.bool p.sens):=HX.out.at 4 rfl
 have xa5:∀ m,(w2.drewN m).cell? ⟨w.heap.size,5,none⟩=some (.int .i64 p.steps):=fun m=>HX.out.at 5 rfl
 have xb5:w2.cell? ⟨w.heap.size,5,none⟩=some (.int .i64 p.steps):=HX.out.at 5 rfl
 have xa6:∀ m,(w2.drewN m).cell? ⟨w.heap.size,6,none⟩=some (.int .i64 p.paths):=fun m=>HX.out.at 6 rfl
 have xb6:w2.cell? ⟨w.heap.size,6,none⟩=some (.int .i64 p.paths):=HX.out.at 6 rfl
 have xa7:∀ m,(w2.drewN m).cell? ⟨w.heap.size,7,none⟩=some (.int .i64 p.nodes):=fun m=>HX.out.at 7 rfl
 have xb7:w2.cell? ⟨w.heap.size,7,none⟩=some (.int .i64 p.nodes):=HX.out.at 7 rfl
 have xa8:∀ m,(w2.drewN m).cell? ⟨w.heap.size,8,none⟩=some (.int .i64 p.conf):=fun m=>HX.out.at 8 rfl
 have xb8:w2.cell? ⟨w.heap.size,8,none⟩=some (.int .i64 p.conf):=HX.out.at 8 rfl
 have ya0:∀ m,(w2.drewN m).cell? ⟨w.heap.size+1,0,none⟩=some (.slice qa ml xa):=fun m=>HY.out.at 0 rfl
 have yb0:w2.cell? ⟨w.heap.size+1,0,none⟩=some (.slice qa ml xa):=HY.out.at 0 rfl
 have ya1:∀ m,(w2.drewN m).cell? ⟨w.heap.size+1,1,none⟩=some (.slice qb mo xb):=fun m=>HY.out.at 1 rfl
 have yb1:w2.cell? ⟨w.heap.size+1,1,none⟩=some (.slice qb mo xb):=HY.out.at 1 rfl
 have ya2:∀ m,(w2.drewN m).cell? ⟨w.heap.size+1,2,none⟩=some (.slice qc mc xc):=fun m=>HY.out.at 2 rfl
 have yb2:w2.cell? ⟨w.heap.size+1,2,none⟩=some (.slice qc mc xc):=HY.out.at 2 rfl
 have ya3:∀ m,(w2.drewN m).cell? ⟨w.heap.size+1,3,none⟩=some (.slice qd ms xd):=fun m=>HY.out.at 3 rfl
 have yb3:w2.cell? ⟨w.heap.size+1,3,none⟩=some (.slice qd ms xd):=HY.out.at 3 rfl
 have ya4:∀ m,(w2.drewN m).cell? ⟨w.heap.size+1,4,none⟩=some (.bool q.sens):=fun m=>HY.out.at 4 rfl
 have yb4:w2.cell? ⟨w.heap.size+1,4,none⟩=some (.bool q.sens):=HY.out.at 4 rfl
 have ya5:∀ m,(w2.drewN m).cell? ⟨w.heap.size+1,5,none⟩=some (.int .i64 q.steps):=fun m=>HY.out.at 5 rfl
 have yb5:w2.cell? ⟨w.heap.size+1,5,none⟩=some (.int .i64 q.steps):=HY.out.at 5 rfl
 have ya6:∀ m,(w2.drewN m).cell? ⟨w.heap.size+1,6,none⟩=some (.int .i64 q.paths):=fun m=>HY.out.at 6 rfl
 have yb6:w2.cell? ⟨w.heap.size+1,6,none⟩=some (.int .i64 q.paths):=HY.out.at 6 rfl
 have ya7:∀ m,(w2.drewN m).cell? ⟨w.heap.size+1,7,none⟩=some (.int .i64 q.nodes):=fun m=>HY.out.at 7 rfl
 have yb7:w2.cell? ⟨w.heap.size+1,7,none⟩=some (.int .i64 q.nodes):=HY.out.at 7 rfl
 have ya8:∀ m,(w2.drewN m).cell? ⟨w.heap.size+1,8,none⟩=some (.int .i64 q.conf):=fun m=>HY.out.at 8 rfl
 have yb8:w2.cell? ⟨w.heap.size+1,8,none⟩=some (.int .i64 q.conf):=HY.out.at 8 rfl
 go_wp2_with (first
  | (go_at_call 41;(with_reducible refine (HC0.out _ HB2.out).mono ?_);rintro e w3 ⟨rfl,n0,rfl⟩;have HW0:=hid (show Below w.heap.size w (w2.drewN (n0)) from HB2.out.trans ((below_drewNQ w2 _).mono HB2.out.size)))
  | (go_at_call 42;(with_reducible refine (HC1.out _ HW0.out).mono ?_);rintro e w3 ⟨rfl,n1,rfl⟩;have HW1:=hid (show Below w.heap.size w (w2.drewN (n0+n1)) from HB2.out.trans ((below_drewNQ w2 _).mono HB2.out.size)))
  | (go_at_call 43;(with_reducible refine (HC2.out _ HW1.out).mono ?_);rintro e w3 ⟨rfl,n2,rfl⟩;have HW2:=hid (show Below w.heap.size w (w2.drewN (n0+n1+n2)) from HB2.out.trans ((below_drewNQ w2 _).mono HB2.out.size)))
  | (go_at_call 43;(with_reducible refine (HC3.out _ HW2.out).mono ?_);rintro e w3 ⟨rfl,n3,rfl⟩;have HW3:=hid (show Below w.heap.size w (w2.drewN (n0+n1+n2+n3)) from HB2.out.trans ((below_drewNQ w2 _).mono HB2.out.size))))
 go_ret
 exact ⟨rfl,HW3.out⟩
set_option maxRecDepth 100000 in
set_option maxHeartbeats 4000000 in
theorem eqpo_4 (p q:Po) (pa pb pc pd qa qb qc qd:Option Addr) (nl no nc ns ml mo mc ms ca cb cc cd xa xb xc xd:Nat) (w:World) (hp:PoV (·<w.heap.size) w (.slice pa nl ca) (.slice pb no cb) (.slice pc nc cc) (.slice pd ns cd) p) (hq:PoV (·<w.heap.size) w (.slice qa ml xa) (.slice qb mo xb) (.slice qc mc xc) (.slice qd ms xd) q) (H0:Hid (decide (p.lv=q.lv)=true)) (H1:Hid (decide (p.od=q.od)=true)) (H2:Hid (decide (p.ch=q.ch)=true)) (H3:Hid (decide (p.st=q.st)=true)) (e0:(p.sens == q.sens)=false) :
  Calls Tryd.prog 15 #[.agg #[.slice pa nl ca,.slice pb no cb,.slice pc nc cc,.slice pd ns cd,.bool p.sens,.int .i64 p.steps,.int .i64 p.paths,.int .i64 p.nodes,.int .i64 p.conf],.agg #[.slice qa ml xa,.slice qb mo xb,.slice qc mc xc,.slice qd ms xd,.bool q.sens,.int .i64 q.steps,.int .i64 q.paths,.int .i64 q.nodes,.int .i64 q.conf]] w fun e w'=>e = .returned (.bool false)∧Below w.heap.size w w':=by
 have HP:=hid hp;have HQ:=hid hq
 clear hp hq
 have HC0:=hid (fun W (hW:Below w.heap.size w W)=>show Calls Tryd.prog 41 #[.slice pa nl ca,.slice qa ml xa] W (fun e w'=>e = .returned (.bool true)∧∃ n,W.drewN n=w') from by rw [← H0.out];exact se_strs p.lv q.lv _ _ _ _ W (HP.out.1.below hW) (HQ.out.1.below hW))
 have HC1:=hid (fun W (hW:Below w.heap.size w W)=>show Calls Tryd.prog 42 #[.slice pb no cb,.slice qb mo xb] W (fun e w'=>e = .returned (.bool true)∧∃ n,W.drewN n=w') from by rw [← H1.out];exact se_pairs p.od q.od _ _ _ _ W (HP.out.2.1.below hW) (HQ.out.2.1.below hW))
 have HC2:=hid (fun W (hW:Below w.heap.size w W)=>show Calls Tryd.prog 43 #[.slice pc nc cc,.slice qc mc xc] W (fun e w'=>e = .returned (.bool true)∧∃ n,W.drewN n=w') from by rw [← H2.out];exact se_binds p.ch q.ch _ _ _ _ W (HP.out.2.2.1.below hW) (HQ.out.2.2.1.below hW))
 have HC3:=hid (fun W (hW:Below w.heap.size w W)=>show Calls Tryd.prog 43 #[.slice pd ns cd,.slice qd ms xd] W (fun e w'=>e = .returned (.bool true)∧∃ n,W.drewN n=w') from by rw [← H3.out];exact se_binds p.st q.st _ _ _ _ W (HP.out.2.2.2.below hW) (HQ.out.2.2.2.below hW))
 go_enter Tryd.func15,Tryd.ntmps15
 go_upto_region 1 with fail
 obtain ⟨w2,hw2⟩:∃ W,(w.alloc (.cells #[.slice pa nl ca,.slice pb no cb,.slice pc nc cc,.slice pd ns cd,.bool p.sens,.int .i64 p.steps,.int .i64 p.paths,.int .i64 p.nodes,.int .i64 p.conf] 26)).alloc (.cells #[.slice qa ml xa,.slice qb mo xb,.slice qc mc xc,.slice qd ms xd,.bool q.sens,.int .i64 q.steps,.int .i64 q.paths,.int .i64 q.nodes,.int .i64 q.conf] 26)=W:=⟨_,rfl⟩
 have HB2:=hid (show Below w.heap.size w w2 from by rw [← hw2];exact ((Below.refl _ _).alloc (Nat.le_refl _) _).alloc (by rw [World.size_alloc];omega) _)
 have HX:=hid (show BxL 26 w.heap.size [.slice pa nl ca,.slice pb no cb,.slice pc nc cc,.slice pd ns cd,.bool p.sens,.int .i64 p.steps,.int .i64 p.paths,.int .i64 p.nodes,.int .i64 p.conf] w2 from by rw [← hw2];exact (BxL.new _ _ _).al _)
 have HY:=hid (show BxL 26 (w.heap.size+1) [.slice qa ml xa,.slice qb mo xb,.slice qc mc xc,.slice qd ms xd,.bool q.sens,.int .i64 q.steps,.int .i64 q.paths,.int .i64 q.nodes,.int .i64 q.conf] w2 from by rw [← hw2];have h9:=BxL.new 26 (w.alloc (.cells #[.slice pa nl ca,.slice pb no cb,.slice pc nc cc,.slice pd ns cd,.bool p.sens,.int .i64 p.steps,.int .i64 p.paths,.int .i64 p.nodes,.int .i64 p.conf] 26)) [.slice qa ml xa,.slice qb mo xb,.slice qc mc xc,.slice qd ms xd,.bool q.sens,.int .i64 q.steps,.int .i64 q.paths,.int .i64 q.nodes,.int .i64 q.conf];rw [World.size_alloc] at h9;exact h9)
 rw [hw2]
 clear hw2
 have xa0:∀ m,(w2.drewN m).cell? ⟨w.heap.size,0,none⟩=some (.slice pa nl ca):=fun m=>HX.out.at 0 rfl
 have xb0:w2.cell? ⟨w.heap.size,0,none⟩=some (.slice pa nl ca):=HX.out.at 0 rfl
 have xa1:∀ m,(w2.drewN m).cell? ⟨w.heap.size,1,none⟩=some (.slice pb no cb):=fun m=>HX.out.at 1 rfl
 have xb1:w2.cell? ⟨w.heap.size,1,none⟩=some (.slice pb no cb):=HX.out.at 1 rfl
 have xa2:∀ m,(w2.drewN m).cell? ⟨w.heap.size,2,none⟩=some (.slice pc nc cc):=fun m=>HX.out.at 2 rfl
 have xb2:w2.cell? ⟨w.heap.size,2,none⟩=some (.slice pc nc cc):=HX.out.at 2 rfl
 have xa3:∀ m,(w2.drewN m).cell? ⟨w.heap.size,3,none⟩=some (.slice pd ns cd):=fun m=>HX.out.at 3 rfl
 have xb3:w2.cell? ⟨w.heap.size,3,none⟩=some (.slice pd ns cd):=HX.out.at 3 rfl
 have xa4:∀ m,(w2.drewN m).cell? ⟨w.heap.size,4,none⟩=some (.bool p.sens):=fun m=>HX.out.at 4 rfl
 have xb4:w2.cell? ⟨w.heap.size,4,none⟩=some (.bool p.sens):=HX.out.at 4 rfl
 have xa5:∀ m,(w2.drewN m).cell? ⟨w.heap.size,5,none⟩=some (.int .i64 p.steps):=fun m=>HX.out.at 5 rfl
 have xb5:w2.cell? ⟨w.heap.size,5,none⟩=some (.int .i64 p.steps):=HX.out.at 5 rfl
 have xa6:∀ m,(w2.drewN m).cell? ⟨w.heap.size,6,none⟩=some (.int .i64 p.paths):=fun m=>HX.out.at 6 rfl
 have xb6:w2.cell? ⟨w.heap.size,6,none⟩=some (.int .i64 p.paths):=HX.out.at 6 rfl
 have xa7:∀ m,(w2.drewN m).cell? ⟨w.heap.size,7,none⟩=some (.int .i64 p.nodes):=fun m=>HX.out.at 7 rfl
 have xb7:w2.cell? ⟨w.heap.size,7,none⟩=some (.int .i64 p.nodes):=HX.out.at 7 rfl
 have xa8:∀ m,(w2.drewN m).cell? ⟨w.heap.size,8,none⟩=some (.int .i64 p.conf):=fun m=>HX.out.at 8 rfl
 have xb8:w2.cell? ⟨w.heap.size,8,none⟩=some (.int .i64 p.conf):=HX.out.at 8 rfl
 have ya0:∀ m,(w2.drewN m).cell? ⟨w.heap.size+1,0,none⟩=some (.slice qa ml xa):=fun m=>HY.out.at 0 rfl
 have yb0:w2.cell? ⟨w.heap.size+1,0,none⟩=some (.slice qa ml xa):=HY.out.at 0 rfl
 have ya1:∀ m,(w2.drewN m).cell? ⟨w.heap.size+1,1,none⟩=some (.slice qb mo xb):=fun m=>HY.out.at 1 rfl
 have yb1:w2.cell? ⟨w.heap.size+1,1,none⟩=some (.slice qb mo xb):=HY.out.at 1 rfl
 have ya2:∀ m,(w2.drewN m).cell? ⟨w.heap.size+1,2,none⟩=some (.slice qc mc xc):=fun m=>HY.out.at 2 rfl
 have yb2:w2.cell? ⟨w.heap.size+1,2,none⟩=some (.slice qc mc xc):=HY.out.at 2 rfl
 have ya3:∀ m,(w2.drewN m).cell? ⟨w.heap.size+1,3,none⟩=some (.slice qd ms xd):=fun m=>HY.out.at 3 rfl
 have yb3:w2.cell? ⟨w.heap.size+1,3,none⟩=some (.slice qd ms xd):=HY.out.at 3 rfl
 have ya4:∀ m,(w2.drewN m).cell? ⟨w.heap.size+1,4,none⟩=some (.bool q.sens):=fun m=>HY.out.at 4 rfl
 have yb4:w2.cell? ⟨w.heap.size+1,4,none⟩=some (.bool q.sens):=HY.out.at 4 rfl
 have ya5:∀ m,(w2.drewN m).cell? ⟨w.heap.size+1,5,none⟩=some (.int .i64 q.steps):=fun m=>HY.out.at 5 rfl
 have yb5:w2.cell? ⟨w.heap.size+1,5,none⟩=some (.int .i64 q.steps):=HY.out.at 5 rfl
 have ya6:∀ m,(w2.drewN m).cell? ⟨w.heap.size+1,6,none⟩=some (.int .i64 q.paths):=fun m=>HY.out.at 6 rfl
 have yb6:w2.cell? ⟨w.heap.size+1,6,none⟩=some (.int .i64 q.paths):=HY.out.at 6 rfl
 have ya7:∀ m,(w2.drewN m).cell? ⟨w.heap.size+1,7,none⟩=some (.int .i64 q.nodes):=fun m=>HY.out.at 7 rfl
 have yb7:w2.cell? ⟨w.heap.size+1,7,none⟩=some (.int .i64 q.nodes):=HY.out.at 7 rfl
 have ya8:∀ m,(w2.drewN m).cell? ⟨w.heap.size+1,8,none⟩=some (.int .i64 q.conf):=fun m=>HY.out.at 8 rfl
 have yb8:w2.cell? ⟨w.heap.size+1,8,none⟩=some (.int .i64 q.conf):=HY.out.at 8 rfl
 go_wp2_with (first
  | (go_at_call 41;(with_reducible refine (HC0.out _ HB2.out).mono ?_);rintro e w3 ⟨rfl,n0,rfl⟩;have HW0:=hid (show Below w.heap.size w (w2.drewN (n0)) from HB2.out.trans ((below_drewNQ w2 _).mono HB2.out.size)))
  | (go_at_call 42;(with_reducible refine (HC1.out _ HW0.out).mono ?_);rintro e w3 ⟨rfl,n1,rfl⟩;have HW1:=hid (show Below w.heap.size w (w2.drewN (n0+n1)) from HB2.out.trans ((below_drewNQ w2 _).mono HB2.out.size)))
  | (go_at_call 43;(with_reducible refine (HC2.out _ HW1.out).mono ?_);rintro e w3 ⟨rfl,n2,rfl⟩;have HW2:=hid (show Below w.heap.size w (w2.drewN (n0+n1+n2)) from HB2.out.trans ((below_drewNQ w2 _).mono HB2.out.size)))
  | (go_at_call 43;(with_reducible refine (HC3.out _ HW2.out).mono ?_);rintro e w3 ⟨rfl,n3,rfl⟩;have HW3:=hid (show Below w.heap.size w (w2.drewN (n0+n1+n2+n3)) from HB2.out.trans ((below_drewNQ w2 _).mono HB2.out.size))))
 go_ret
 exact ⟨rfl,HW3.out⟩
set_option maxRecDepth 100000 in
set_option maxHeartbeats 4000000 in
theorem eqpo_5 (p q:Po) (pa pb pc pd qa qb qc qd:Option Addr) (nl no nc ns ml mo mc ms ca cb cc cd xa xb xc xd:Nat) (w:World) (hp:PoV (·<w.heap.size) w (.slice pa nl ca) (.slice pb no cb) (.slice pc nc cc) (.slice pd ns cd) p) (hq:PoV (·<w.heap.size) w (.slice qa ml xa) (.slice qb mo xb) (.slice qc mc xc) (.slice qd ms xd) q) (H0:Hid (decide (p.lv=q.lv)=true)) (H1:Hid (decide (p.od=q.od)=true)) (H2:Hid (decide (p.ch=q.ch)=true)) (H3:Hid (decide (p.st=q.st)=true)) (e0:(p.sens == q.sens)=true) (e1:(p.steps == q.steps)=false) :
  Calls Tryd.prog 15 #[.agg #[.slice pa nl ca,.slice pb no cb,.slice pc nc cc,.slice pd ns cd,.bool p.sens,.int .i64 p.steps,.int .i64 p.paths,.int .i64 p.nodes,.int .i64 p.conf],.agg #[.slice qa ml xa,.slice qb mo xb,.slice qc mc xc,.slice qd ms xd,.bool q.sens,.int .i64 q.steps,.int .i64 q.paths,.int .i64 q.nodes,.int .i64 q.conf]] w fun e w'=>e = .returned (.bool false)∧Below w.heap.size w w':=by
 have HP:=hid hp;have HQ:=hid hq
 clear hp hq
 have HC0:=hid (fun W (hW:Below w.heap.size w W)=>show Calls Tryd.prog 41 #[.slice pa nl ca,.slice qa ml xa] W (fun e w'=>e = .returned (.bool true)∧∃ n,W.drewN n=w') from by rw [← H0.out];exact se_strs p.lv q.lv _ _ _ _ W (HP.out.1.below hW) (HQ.out.1.below hW))
 have HC1:=hid (fun W (hW:Below w.heap.size w W)=>show Calls Tryd.prog 42 #[.slice pb no cb,.slice qb mo xb] W (fun e w'=>e = .returned (.bool true)∧∃ n,W.drewN n=w') from by rw [← H1.out];exact se_pairs p.od q.od _ _ _ _ W (HP.out.2.1.below hW) (HQ.out.2.1.below hW))
 have HC2:=hid (fun W (hW:Below w.heap.size w W)=>show Calls Tryd.prog 43 #[.slice pc nc cc,.slice qc mc xc] W (fun e w'=>e = .returned (.bool true)∧∃ n,W.drewN n=w') from by rw [← H2.out];exact se_binds p.ch q.ch _ _ _ _ W (HP.out.2.2.1.below hW) (HQ.out.2.2.1.below hW))
 have HC3:=hid (fun W (hW:Below w.heap.size w W)=>show Calls Tryd.prog 43 #[.slice pd ns cd,.slice qd ms xd] W (fun e w'=>e = .returned (.bool true)∧∃ n,W.drewN n=w') from by rw [← H3.out];exact se_binds p.st q.st _ _ _ _ W (HP.out.2.2.2.below hW) (HQ.out.2.2.2.below hW))
 go_enter Tryd.func15,Tryd.ntmps15
 go_upto_region 1 with fail
 obtain ⟨w2,hw2⟩:∃ W,(w.alloc (.cells #[.slice pa nl ca,.slice pb no cb,.slice pc nc cc,.slice pd ns cd,.bool p.sens,.int .i64 p.steps,.int .i64 p.paths,.int .i64 p.nodes,.int .i64 p.conf] 26)).alloc (.cells #[.slice qa ml xa,.slice qb mo xb,.slice qc mc xc,.slice qd ms xd,.bool q.sens,.int .i64 q.steps,.int .i64 q.paths,.int .i64 q.nodes,.int .i64 q.conf] 26)=W:=⟨_,rfl⟩
 have HB2:=hid (show Below w.heap.size w w2 from by rw [← hw2];exact ((Below.refl _ _).alloc (Nat.le_refl _) _).alloc (by rw [World.size_alloc];omega) _)
 have HX:=hid (show BxL 26 w.heap.size [.slice pa nl ca,.slice pb no cb,.slice pc nc cc,.slice pd ns cd,.bool p.sens,.int .i64 p.steps,.int .i64 p.paths,.int .i64 p.nodes,.int .i64 p.conf] w2 from by rw [← hw2];exact (BxL.new _ _ _).al _)
 have HY:=hid (show BxL 26 (w.heap.size+1) [.slice qa ml xa,.slice qb mo xb,.slice qc mc xc,.slice qd ms xd,.bool q.sens,.int .i64 q.steps,.int .i64 q.paths,.int .i64 q.nodes,.int .i64 q.conf] w2 from by rw [← hw2];have h9:=BxL.new 26 (w.alloc (.cells #[.slice pa nl ca,.slice pb no cb,.slice pc nc cc,.slice pd ns cd,.bool p.sens,.int .i64 p.steps,.int .i64 p.paths,.int .i64 p.nodes,.int .i64 p.conf] 26)) [.slice qa ml xa,.slice qb mo xb,.slice qc mc xc,.slice qd ms xd,.bool q.sens,.int .i64 q.steps,.int .i64 q.paths,.int .i64 q.nodes,.int .i64 q.conf];rw [World.size_alloc] at h9;exact h9)
 rw [hw2]
 clear hw2
 have xa0:∀ m,(w2.drewN m).cell? ⟨w.heap.size,0,none⟩=some (.slice pa nl ca):=fun m=>HX.out.at 0 rfl
 have xb0:w2.cell? ⟨w.heap.size,0,none⟩=some (.slice pa nl ca):=HX.out.at 0 rfl
 have xa1:∀ m,(w2.drewN m).cell? ⟨w.heap.size,1,none⟩=some (.slice pb no cb):=fun m=>HX.out.at 1 rfl
 have xb1:w2.cell? ⟨w.heap.size,1,none⟩=some (.slice pb no cb):=HX.out.at 1 rfl
 have xa2:∀ m,(w2.drewN m).cell? ⟨w.heap.size,2,none⟩=some (.slice pc nc cc):=fun m=>HX.out.at 2 rfl
 have xb2:w2.cell? ⟨w.heap.size,2,none⟩=some (.slice pc nc cc):=HX.out.at 2 rfl
 have xa3:∀ m,(w2.drewN m).cell? ⟨w.heap.size,3,none⟩=some (.slice pd ns cd):=fun m=>HX.out.at 3 rfl
 have xb3:w2.cell? ⟨w.heap.size,3,none⟩=some (.slice pd ns cd):=HX.out.at 3 rfl
 have xa4:∀ m,(w2.drewN m).cell? ⟨w.heap.size,4,none⟩=some (.bool p.sens):=fun m=>HX.out.at 4 rfl
 have xb4:w2.cell? ⟨w.heap.size,4,none⟩=some (.bool p.sens):=HX.out.at 4 rfl
 have xa5:∀ m,(w2.drewN m).cell? ⟨w.heap.size,5,none⟩=some (.int .i64 p.steps):=fun m=>HX.out.at 5 rfl
 have xb5:w2.cell? ⟨w.heap.size,5,none⟩=some (.int .i64 p.steps):=HX.out.at 5 rfl
 have xa6:∀ m,(w2.drewN m).cell? ⟨w.heap.size,6,none⟩=some (.int .i64 p.paths):=fun m=>HX.out.at 6 rfl
 have xb6:w2.cell? ⟨w.heap.size,6,none⟩=some (.int .i64 p.paths):=HX.out.at 6 rfl
 have xa7:∀ m,(w2.drewN m).cell? ⟨w.heap.size,7,none⟩=some (.int .i64 p.nodes):=fun m=>HX.out.at 7 rfl
 have xb7:w2.cell? ⟨w.heap.size,7,none⟩=some (.int .i64 p.nodes):=HX.out.at 7 rfl
 have xa8:∀ m,(w2.drewN m).cell? ⟨w.heap.size,8,none⟩=some (.int .i64 p.conf):=fun m=>HX.out.at 8 rfl
 have xb8:w2.cell? ⟨w.heap.size,8,none⟩=some (.int .i64 p.conf):=HX.out.at 8 rfl
 have ya0:∀ m,(w2.drewN m).cell? ⟨w.heap.size+1,0,none⟩=some (.slice qa ml xa):=fun m=>HY.out.at 0 rfl
 have yb0:w2.cell? ⟨w.heap.size+1,0,none⟩=some (.slice qa ml xa):=HY.out.at 0 rfl
 have ya1:∀ m,(w2.drewN m).cell? ⟨w.heap.size+1,1,none⟩=some (.slice qb mo xb):=fun m=>HY.out.at 1 rfl
 have yb1:w2.cell? ⟨w.heap.size+1,1,none⟩=some (.slice qb mo xb):=HY.out.at 1 rfl
 have ya2:∀ m,(w2.drewN m).cell? ⟨w.heap.size+1,2,none⟩=some (.slice qc mc xc):=fun m=>HY.out.at 2 rfl
 have yb2:w2.cell? ⟨w.heap.size+1,2,none⟩=some (.slice qc mc xc):=HY.out.at 2 rfl
 have ya3:∀ m,(w2.drewN m).cell? ⟨w.heap.size+1,3,none⟩=some (.slice qd ms xd):=fun m=>HY.out.at 3 rfl
 have yb3:w2.cell? ⟨w.heap.size+1,3,none⟩=some (.slice qd ms xd):=HY.out.at 3 rfl
 have ya4:∀ m,(w2.drewN m).cell? ⟨w.heap.size+1,4,none⟩=some (.bool q.sens):=fun m=>HY.out.at 4 rfl
 have yb4:w2.cell? ⟨w.heap.size+1,4,none⟩=some (.bool q.sens):=HY.out.at 4 rfl
 have ya5:∀ m,(w2.drewN m).cell? ⟨w.heap.size+1,5,none⟩=some (.int .i64 q.steps):=fun m=>HY.out.at 5 rfl
 have yb5:w2.cell? ⟨w.heap.size+1,5,none⟩=some (.int .i64 q.steps):=HY.out.at 5 rfl
 have ya6:∀ m,(w2.drewN m).cell? ⟨w.heap.size+1,6,none⟩=some (.int .i64 q.paths):=fun m=>HY.out.at 6 rfl
 have yb6:w2.cell? ⟨w.heap.size+1,6,none⟩=some (.int .i64 q.paths):=HY.out.at 6 rfl
 have ya7:∀ m,(w2.drewN m).cell? ⟨w.heap.size+1,7,none⟩=some (.int .i64 q.nodes):=fun m=>HY.out.at 7 rfl
 have yb7:w2.cell? ⟨w.heap.size+1,7,none⟩=some (.int .i64 q.nodes):=HY.out.at 7 rfl
 have ya8:∀ m,(w2.drewN m).cell? ⟨w.heap.size+1,8,none⟩=some (.int .i64 q.conf):=fun m=>HY.out.at 8 rfl
 have yb8:w2.cell? ⟨w.heap.size+1,8,none⟩=some (.int .i64 q.conf):=HY.out.at 8 rfl
 go_wp2_with (first
  | (go_at_call 41;(with_reducible refine (HC0.out _ HB2.out).mono ?_);rintro e w3 ⟨rfl,n0,rfl⟩;have HW0:=hid (show Below w.heap.size w (w2.drewN (n0)) from HB2.out.trans ((below_drewNQ w2 _).mono HB2.out.size)))
  | (go_at_call 42;(with_reducible refine (HC1.out _ HW0.out).mono ?_);rintro e w3 ⟨rfl,n1,rfl⟩;have HW1:=hid (show Below w.heap.size w (w2.drewN (n0+n1)) from HB2.out.trans ((below_drewNQ w2 _).mono HB2.out.size)))
  | (go_at_call 43;(with_reducible refine (HC2.out _ HW1.out).mono ?_);rintro e w3 ⟨rfl,n2,rfl⟩;have HW2:=hid (show Below w.heap.size w (w2.drewN (n0+n1+n2)) from HB2.out.trans ((below_drewNQ w2 _).mono HB2.out.size)))
  | (go_at_call 43;(with_reducible refine (HC3.out _ HW2.out).mono ?_);rintro e w3 ⟨rfl,n3,rfl⟩;have HW3:=hid (show Below w.heap.size w (w2.drewN (n0+n1+n2+n3)) from HB2.out.trans ((below_drewNQ w2 _).mono HB2.out.size))))
 go_ret
 exact ⟨rfl,HW3.out⟩
set_option maxRecDepth 100000 in
set_option maxHeartbeats 4000000 in
theorem eqpo_6 (p q:Po) (pa pb pc pd qa qb qc qd:Option Addr) (nl no nc ns ml mo mc ms ca cb cc cd xa xb xc xd:Nat) (w:World) (hp:PoV (·<w.heap.size) w (.slice pa nl ca) (.slice pb no cb) (.slice pc nc cc) (.slice pd ns cd) p) (hq:PoV (·<w.heap.size) w (.slice qa ml xa) (.slice qb mo xb) (.slice qc mc xc) (.slice qd ms xd) q) (H0:Hid (decide (p.lv=q.lv)=true)) (H1:Hid (decide (p.od=q.od)=true)) (H2:Hid (decide (p.ch=q.ch)=true)) (H3:Hid (decide (p.st=q.st)=true)) (e0:(p.sens == q.sens)=true) (e1:(p.steps == q.steps)=true) (e2:(p.paths == q.paths)=false) :
  Calls Tryd.prog 15 #[.agg #[.slice pa nl ca,.slice pb no cb,.slice pc nc cc,.slice pd ns cd,.bool p.sens,.int .i64 p.steps,.int .i64 p.paths,.int .i64 p.nodes,.int .i64 p.conf],.agg #[.slice qa ml xa,.slice qb mo xb,.slice qc mc xc,.slice qd ms xd,.bool q.sens,.int .i64 q.steps,.int .i64 q.paths,.int .i64 q.nodes,.int .i64 q.conf]] w fun e w'=>e = .returned (.bool false)∧Below w.heap.size w w':=by
 have HP:=hid hp;have HQ:=hid hq
 clear hp hq
 have HC0:=hid (fun W (hW:Below w.heap.size w W)=>show Calls Tryd.prog 41 #[.slice pa nl ca,.slice qa ml xa] W (fun e w'=>e = .returned (.bool true)∧∃ n,W.drewN n=w') from by rw [← H0.out];exact se_strs p.lv q.lv _ _ _ _ W (HP.out.1.below hW) (HQ.out.1.below hW))
 have HC1:=hid (fun W (hW:Below w.heap.size w W)=>show Calls Tryd.prog 42 #[.slice pb no cb,.slice qb mo xb] W (fun e w'=>e = .returned (.bool true)∧∃ n,W.drewN n=w') from by rw [← H1.out];exact se_pairs p.od q.od _ _ _ _ W (HP.out.2.1.below hW) (HQ.out.2.1.below hW))
 have HC2:=hid (fun W (hW:Below w.heap.size w W)=>show Calls Tryd.prog 43 #[.slice pc nc cc,.slice qc mc xc] W (fun e w'=>e = .returned (.bool true)∧∃ n,W.drewN n=w') from by rw [← H2.out];exact se_binds p.ch q.ch _ _ _ _ W (HP.out.2.2.1.below hW) (HQ.out.2.2.1.below hW))
 have HC3:=hid (fun W (hW:Below w.heap.size w W)=>show Calls Tryd.prog 43 #[.slice pd ns cd,.slice qd ms xd] W (fun e w'=>e = .returned (.bool true)∧∃ n,W.drewN n=w') from by rw [← H3.out];exact se_binds p.st q.st _ _ _ _ W (HP.out.2.2.2.below hW) (HQ.out.2.2.2.below hW))
 go_enter Tryd.func15,Tryd.ntmps15
 go_upto_region 1 with fail
 obtain ⟨w2,hw2⟩:∃ W,(w.alloc (.cells #[.slice pa nl ca,.slice pb no cb,.slice pc nc cc,.slice pd ns cd,.bool p.sens,.int .i64 p.steps,.int .i64 p.paths,.int .i64 p.nodes,.int .i64 p.conf] 26)).alloc (.cells #[.slice qa ml xa,.slice qb mo xb,.slice qc mc xc,.slice qd ms xd,.bool q.sens,.int .i64 q.steps,.int .i64 q.paths,.int .i64 q.nodes,.int .i64 q.conf] 26)=W:=⟨_,rfl⟩
 have HB2:=hid (show Below w.heap.size w w2 from by rw [← hw2];exact ((Below.refl _ _).alloc (Nat.le_refl _) _).alloc (by rw [World.size_alloc];omega) _)
 have HX:=hid (show BxL 26 w.heap.size [.slice pa nl ca,.slice pb no cb,.slice pc nc cc,.slice pd ns cd,.bool p.sens,.int .i64 p.steps,.int .i64 p.paths,.int .i64 p.nodes,.int .i64 p.conf] w2 from by rw [← hw2];exact (BxL.new _ _ _).al _)
 have HY:=hid (show BxL 26 (w.heap.size+1) [.slice qa ml xa,.slice qb mo xb,.slice qc mc xc,.slice qd ms xd,.bool q.sens,.int .i64 q.steps,.int .i64 q.paths,.int .i64 q.nodes,.int .i64 q.conf] w2 from by rw [← hw2];have h9:=BxL.new 26 (w.alloc (.cells #[.slice pa nl ca,.slice pb no cb,.slice pc nc cc,.slice pd ns cd,.bool p.sens,.int .i64 p.steps,.int .i64 p.paths,.int .i64 p.nodes,.int .i64 p.conf] 26)) [.slice qa ml xa,.slice qb mo xb,.slice qc mc xc,.slice qd ms xd,.bool q.sens,.int .i64 q.steps,.int .i64 q.paths,.int .i64 q.nodes,.int .i64 q.conf];rw [World.size_alloc] at h9;exact h9)
 rw [hw2]
 clear hw2
 have xa0:∀ m,(w2.drewN m).cell? ⟨w.heap.size,0,none⟩=some (.slice pa nl ca):=fun m=>HX.out.at 0 rfl
 have xb0:w2.cell? ⟨w.heap.size,0,none⟩=some (.slice pa nl ca):=HX.out.at 0 rfl
 have xa1:∀ m,(w2.drewN m).cell? ⟨w.heap.size,1,none⟩=some (.slice pb no cb):=fun m=>HX.out.at 1 rfl
 have xb1:w2.cell? ⟨w.heap.size,1,none⟩=some (.slice pb no cb):=HX.out.at 1 rfl
 have xa2:∀ m,(w2.drewN m).cell? ⟨w.heap.size,2,none⟩=some (.slice pc nc cc):=fun m=>HX.out.at 2 rfl
 have xb2:w2.cell? ⟨w.heap.size,2,none⟩=some (.slice pc nc cc):=HX.out.at 2 rfl
 have xa3:∀ m,(w2.drewN m).cell? ⟨w.heap.size,3,none⟩=some (.slice pd ns cd):=fun m=>HX.out.at 3 rfl
 have xb3:w2.cell? ⟨w.heap.size,3,none⟩=some (.slice pd ns cd):=HX.out.at 3 rfl
 have xa4:∀ m,(w2.drewN m).cell? ⟨w.heap.size,4,none⟩=some (.bool p.sens):=fun m=>HX.out.at 4 rfl
 have xb4:w2.cell? ⟨w.heap.size,4,none⟩=some (.bool p.sens):=HX.out.at 4 rfl
 have xa5:∀ m,(w2.drewN m).cell? ⟨w.heap.size,5,none⟩=some (.int .i64 p.steps):=fun m=>HX.out.at 5 rfl
 have xb5:w2.cell? ⟨w.heap.size,5,none⟩=some (.int .i64 p.steps):=HX.out.at 5 rfl
 have xa6:∀ m,(w2.drewN m).cell? ⟨w.heap.size,6,none⟩=some (.int .i64 p.paths):=fun m=>HX.out.at 6 rfl
 have xb6:w2.cell? ⟨w.heap.size,6,none⟩=some (.int .i64 p.paths):=HX.out.at 6 rfl
 have xa7:∀ m,(w2.drewN m).cell? ⟨w.heap.size,7,none⟩=some (.int .i64 p.nodes):=fun m=>HX.out.at 7 rfl
 have xb7:w2.cell? ⟨w.heap.size,7,none⟩=some (.int .i64 p.nodes):=HX.out.at 7 rfl
 have xa8:∀ m,(w2.drewN m).cell? ⟨w.heap.size,8,none⟩=some (.int .i64 p.conf):=fun m=>HX.out.at 8 rfl
 have xb8:w2.cell? ⟨w.heap.size,8,none⟩=some (.int .i64 p.conf):=HX.out.at 8 rfl
 have ya0:∀ m,(w2.drewN m).cell? ⟨w.heap.size+1,0,none⟩=some (.slice qa ml xa):=fun m=>HY.out.at 0 rfl
 have yb0:w2.cell? ⟨w.heap.size+1,0,none⟩=some (.slice qa ml xa):=HY.out.at 0 rfl
 have ya1:∀ m,(w2.drewN m).cell? ⟨w.heap.size+1,1,none⟩=some (.slice qb mo xb):=fun m=>HY.out.at 1 rfl
 have yb1:w2.cell? ⟨w.heap.size+1,1,none⟩=some (.slice qb mo xb):=HY.out.at 1 rfl
 have ya2:∀ m,(w2.drewN m).cell? ⟨w.heap.size+1,2,none⟩=some (.slice qc mc xc):=fun m=>HY.out.at 2 rfl
 have yb2:w2.cell? ⟨w.heap.size+1,2,none⟩=some (.slice qc mc xc):=HY.out.at 2 rfl
 have ya3:∀ m,(w2.drewN m).cell? ⟨w.heap.size+1,3,none⟩=some (.slice qd ms xd):=fun m=>HY.out.at 3 rfl
 have yb3:w2.cell? ⟨w.heap.size+1,3,none⟩=some (.slice qd ms xd):=HY.out.at 3 rfl
 have ya4:∀ m,(w2.drewN m).cell? ⟨w.heap.size+1,4,none⟩=some (.bool q.sens):=fun m=>HY.out.at 4 rfl
 have yb4:w2.cell? ⟨w.heap.size+1,4,none⟩=some (.bool q.sens):=HY.out.at 4 rfl
 have ya5:∀ m,(w2.drewN m).cell? ⟨w.heap.size+1,5,none⟩=some (.int .i64 q.steps):=fun m=>HY.out.at 5 rfl
 have yb5:w2.cell? ⟨w.heap.size+1,5,none⟩=some (.int .i64 q.steps):=HY.out.at 5 rfl
 have ya6:∀ m,(w2.drewN m).cell? ⟨w.heap.size+1,6,none⟩=some (.int .i64 q.paths):=fun m=>HY.out.at 6 rfl
 have yb6:w2.cell? ⟨w.heap.size+1,6,none⟩=some (.int .i64 q.paths):=HY.out.at 6 rfl
 have ya7:∀ m,(w2.drewN m).cell? ⟨w.heap.size+1,7,none⟩=some (.int .i64 q.nodes):=fun m=>HY.out.at 7 rfl
 have yb7:w2.cell? ⟨w.heap.size+1,7,none⟩=some (.int .i64 q.nodes):=HY.out.at 7 rfl
 have ya8:∀ m,(w2.drewN m).cell? ⟨w.heap.size+1,8,none⟩=some (.int .i64 q.conf):=fun m=>HY.out.at 8 rfl
 have yb8:w2.cell? ⟨w.heap.size+1,8,none⟩=some (.int .i64 q.conf):=HY.out.at 8 rfl
 go_wp2_with (first
  | (go_at_call 41;(with_reducible refine (HC0.out _ HB2.out).mono ?_);rintro e w3 ⟨rfl,n0,rfl⟩;have HW0:=hid (show Below w.heap.size w (w2.drewN (n0)) from HB2.out.trans ((below_drewNQ w2 _).mono HB2.out.size)))
  | (go_at_call 42;(with_reducible refine (HC1.out _ HW0.out).mono ?_);rintro e w3 ⟨rfl,n1,rfl⟩;have HW1:=hid (show Below w.heap.size w (w2.drewN (n0+n1)) from HB2.out.trans ((below_drewNQ w2 _).mono HB2.out.size)))
  | (go_at_call 43;(with_reducible refine (HC2.out _ HW1.out).mono ?_);rintro e w3 ⟨rfl,n2,rfl⟩;have HW2:=hid (show Below w.heap.size w (w2.drewN (n0+n1+n2)) from HB2.out.trans ((below_drewNQ w2 _).mono HB2.out.size)))
  | (go_at_call 43;(with_reducible refine (HC3.out _ HW2.out).mono ?_);rintro e w3 ⟨rfl,n3,rfl⟩;have HW3:=hid (show Below w.heap.size w (w2.drewN (n0+n1+n2+n3)) from HB2.out.trans ((below_drewNQ w2 _).mono HB2.out.size))))
 go_ret
 exact ⟨rfl,HW3.out⟩
set_option maxRecDepth 100000 in
set_option maxHeartbeats 4000000 in
theorem eqpo_7 (p q:Po) (pa pb pc pd qa qb qc qd:Option Addr) (nl no nc ns ml mo mc ms ca cb cc cd xa xb xc xd:Nat) (w:World) (hp:PoV (·<w.heap.size) w (.slice pa nl ca) (.slice pb no cb) (.slice pc nc cc) (.slice pd ns cd) p) (hq:PoV (·<w.heap.size) w (.slice qa ml xa) (.slice qb mo xb) (.slice qc mc xc) (.slice qd ms xd) q) (H0:Hid (decide (p.lv=q.lv)=true)) (H1:Hid (decide (p.od=q.od)=true)) (H2:Hid (decide (p.ch=q.ch)=true)) (H3:Hid (decide (p.st=q.st)=true)) (e0:(p.sens == q.sens)=true) (e1:(p.steps == q.steps)=true) (e2:(p.paths == q.paths)=true) (e3:(p.nodes == q.nodes)=false) :
  Calls Tryd.prog 15 #[.agg #[.slice pa nl ca,.slice pb no cb,.slice pc nc cc,.slice pd ns cd,.bool p.sens,.int .i64 p.steps,.int .i64 p.paths,.int .i64 p.nodes,.int .i64 p.conf],.agg #[.slice qa ml xa,.slice qb mo xb,.slice qc mc xc,.slice qd ms xd,.bool q.sens,.int .i64 q.steps,.int .i64 q.paths,.int .i64 q.nodes,.int .i64 q.conf]] w fun e w'=>e = .returned (.bool false)∧Below w.heap.size w w':=by
 have HP:=hid hp;have HQ:=hid hq
 clear hp hq
 have HC0:=hid (fun W (hW:Below w.heap.size w W)=>show Calls Tryd.prog 41 #[.slice pa nl ca,.slice qa ml xa] W (fun e w'=>e = .returned (.bool true)∧∃ n,W.drewN n=w') from by rw [← H0.out];exact se_strs p.lv q.lv _ _ _ _ W (HP.out.1.below hW) (HQ.out.1.below hW))
 have HC1:=hid (fun W (hW:Below w.heap.size w W)=>show Calls Tryd.prog 42 #[.slice pb no cb,.slice qb mo xb] W (fun e w'=>e = .returned (.bool true)∧∃ n,W.drewN n=w') from by rw [← H1.out];exact se_pairs p.od q.od _ _ _ _ W (HP.out.2.1.below hW) (HQ.out.2.1.below hW))
 have HC2:=hid (fun W (hW:Below w.heap.size w W)=>show Calls Tryd.prog 43 #[.slice pc nc cc,.slice qc mc xc] W (fun e w'=>e = .returned (.bool true)∧∃ n,W.drewN n=w') from by rw [← H2.out];exact se_binds p.ch q.ch _ _ _ _ W (HP.out.2.2.1.below hW) (HQ.out.2.2.1.below hW))
 have HC3:=hid (fun W (hW:Below w.heap.size w W)=>show Calls Tryd.prog 43 #[.slice pd ns cd,.slice qd ms xd] W (fun e w'=>e = .returned (.bool true)∧∃ n,W.drewN n=w') from by rw [← H3.out];exact se_binds p.st q.st _ _ _ _ W (HP.out.2.2.2.below hW) (HQ.out.2.2.2.below hW))
 go_enter Tryd.func15,Tryd.ntmps15
 go_upto_region 1 with fail
 obtain ⟨w2,hw2⟩:∃ W,(w.alloc (.cells #[.slice pa nl ca,.slice pb no cb,.slice pc nc cc,.slice pd ns cd,.bool p.sens,.int .i64 p.steps,.int .i64 p.paths,.int .i64 p.nodes,.int .i64 p.conf] 26)).alloc (.cells #[.slice qa ml xa,.slice qb mo xb,.slice qc mc xc,.slice qd ms xd,.bool q.sens,.int .i64 q.steps,.int .i64 q.paths,.int .i64 q.nodes,.int .i64 q.conf] 26)=W:=⟨_,rfl⟩
 have HB2:=hid (show Below w.heap.size w w2 from by rw [← hw2];exact ((Below.refl _ _).alloc (Nat.le_refl _) _).alloc (by rw [World.size_alloc];omega) _)
 have HX:=hid (show BxL 26 w.heap.size [.slice pa nl ca,.slice pb no cb,.slice pc nc cc,.slice pd ns cd,.bool p.sens,.int .i64 p.steps,.int .i64 p.paths,.int .i64 p.nodes,.int .i64 p.conf] w2 from by rw [← hw2];exact (BxL.new _ _ _).al _)
 have HY:=hid (show BxL 26 (w.heap.size+1) [.slice qa ml xa,.slice qb mo xb,.slice qc mc xc,.slice qd ms xd,.bool q.sens,.int .i64 q.steps,.int .i64 q.paths,.int .i64 q.nodes,.int .i64 q.conf] w2 from by rw [← hw2];have h9:=BxL.new 26 (w.alloc (.cells #[.slice pa nl ca,.slice pb no cb,.slice pc nc cc,.slice pd ns cd,.bool p.sens,.int .i64 p.steps,.int .i64 p.paths,.int .i64 p.nodes,.int .i64 p.conf] 26)) [.slice qa ml xa,.slice qb mo xb,.slice qc mc xc,.slice qd ms xd,.bool q.sens,.int .i64 q.steps,.int .i64 q.paths,.int .i64 q.nodes,.int .i64 q.conf];rw [World.size_alloc] at h9;exact h9)
 rw [hw2]
 clear hw2
 have xa0:∀ m,(w2.drewN m).cell? ⟨w.heap.size,0,none⟩=some (.slice pa nl ca):=fun m=>HX.out.at 0 rfl
 have xb0:w2.cell? ⟨w.heap.size,0,none⟩=some (.slice pa nl ca):=HX.out.at 0 rfl
 have xa1:∀ m,(w2.drewN m).cell? ⟨w.heap.size,1,none⟩=some (.slice pb no cb):=fun m=>HX.out.at 1 rfl
 have xb1:w2.cell? ⟨w.heap.size,1,none⟩=some (.slice pb no cb):=HX.out.at 1 rfl
 have xa2:∀ m,(w2.drewN m).cell? ⟨w.heap.size,2,none⟩=some (.slice pc nc cc):=fun m=>HX.out.at 2 rfl
 have xb2:w2.cell? ⟨w.heap.size,2,none⟩=some (.slice pc nc cc):=HX.out.at 2 rfl
 have xa3:∀ m,(w2.drewN m).cell? ⟨w.heap.size,3,none⟩=some (.slice pd ns cd):=fun m=>HX.out.at 3 rfl
 have xb3:w2.cell? ⟨w.heap.size,3,none⟩=some (.slice pd ns cd):=HX.out.at 3 rfl
 have xa4:∀ m,(w2.drewN m).cell? ⟨w.heap.size,4,none⟩=some (.bool p.sens):=fun m=>HX.out.at 4 rfl
 have xb4:w2.cell? ⟨w.heap.size,4,none⟩=some (.bool p.sens):=HX.out.at 4 rfl
 have xa5:∀ m,(w2.drewN m).cell? ⟨w.heap.size,5,none⟩=some (.int .i64 p.steps):=fun m=>HX.out.at 5 rfl
 have xb5:w2.cell? ⟨w.heap.size,5,none⟩=some (.int .i64 p.steps):=HX.out.at 5 rfl
 have xa6:∀ m,(w2.drewN m).cell? ⟨w.heap.size,6,none⟩=some (.int .i64 p.paths):=fun m=>HX.out.at 6 rfl
 have xb6:w2.cell? ⟨w.heap.size,6,none⟩=some (.int .i64 p.paths):=HX.out.at 6 rfl
 have xa7:∀ m,(w2.drewN m).cell? ⟨w.heap.size,7,none⟩=some (.int .i64 p.nodes):=fun m=>HX.out.at 7 rfl
 have xb7:w2.cell? ⟨w.heap.size,7,none⟩=some (.int .i64 p.nodes):=HX.out.at 7 rfl
 have xa8:∀ m,(w2.drewN m).cell? ⟨w.heap.size,8,none⟩=some (.int .i64 p.conf):=fun m=>HX.out.at 8 rfl
 have xb8:w2.cell? ⟨w.heap.size,8,none⟩=some (.int .i64 p.conf):=HX.out.at 8 rfl
 have ya0:∀ m,(w2.drewN m).cell? ⟨w.heap.size+1,0,none⟩=some (.slice qa ml xa):=fun m=>HY.out.at 0 rfl
 have yb0:w2.cell? ⟨w.heap.size+1,0,none⟩=some (.slice qa ml xa):=HY.out.at 0 rfl
 have ya1:∀ m,(w2.drewN m).cell? ⟨w.heap.size+1,1,none⟩=some (.slice qb mo xb):=fun m=>HY.out.at 1 rfl
 have yb1:w2.cell? ⟨w.heap.size+1,1,none⟩=some (.slice qb mo xb):=HY.out.at 1 rfl
 have ya2:∀ m,(w2.drewN m).cell? ⟨w.heap.size+1,2,none⟩=some (.slice qc mc xc):=fun m=>HY.out.at 2 rfl
 have yb2:w2.cell? ⟨w.heap.size+1,2,none⟩=some (.slice qc mc xc):=HY.out.at 2 rfl
 have ya3:∀ m,(w2.drewN m).cell? ⟨w.heap.size+1,3,none⟩=some (.slice qd ms xd):=fun m=>HY.out.at 3 rfl
 have yb3:w2.cell? ⟨w.heap.size+1,3,none⟩=some (.slice qd ms xd):=HY.out.at 3 rfl
 have ya4:∀ m,(w2.drewN m).cell? ⟨w.heap.size+1,4,none⟩=some (.bool q.sens):=fun m=>HY.out.at 4 rfl
 have yb4:w2.cell? ⟨w.heap.size+1,4,none⟩=some (.bool q.sens):=HY.out.at 4 rfl
 have ya5:∀ m,(w2.drewN m).cell? ⟨w.heap.size+1,5,none⟩=some (.int .i64 q.steps):=fun m=>HY.out.at 5 rfl
 have yb5:w2.cell? ⟨w.heap.size+1,5,none⟩=some (.int .i64 q.steps):=HY.out.at 5 rfl
 have ya6:∀ m,(w2.drewN m).cell? ⟨w.heap.size+1,6,none⟩=some (.int .i64 q.paths):=fun m=>HY.out.at 6 rfl
 have yb6:w2.cell? ⟨w.heap.size+1,6,none⟩=some (.int .i64 q.paths):=HY.out.at 6 rfl
 have ya7:∀ m,(w2.drewN m).cell? ⟨w.heap.size+1,7,none⟩=some (.int .i64 q.nodes):=fun m=>HY.out.at 7 rfl
 have yb7:w2.cell? ⟨w.heap.size+1,7,none⟩=some (.int .i64 q.nodes):=HY.out.at 7 rfl
 have ya8:∀ m,(w2.drewN m).cell? ⟨w.heap.size+1,8,none⟩=some (.int .i64 q.conf):=fun m=>HY.out.at 8 rfl
 have yb8:w2.cell? ⟨w.heap.size+1,8,none⟩=some (.int .i64 q.conf):=HY.out.at 8 rfl
 go_wp2_with (first
  | (go_at_call 41;(with_reducible refine (HC0.out _ HB2.out).mono ?_);rintro e w3 ⟨rfl,n0,rfl⟩;have HW0:=hid (show Below w.heap.size w (w2.drewN (n0)) from HB2.out.trans ((below_drewNQ w2 _).mono HB2.out.size)))
  | (go_at_call 42;(with_reducible refine (HC1.out _ HW0.out).mono ?_);rintro e w3 ⟨rfl,n1,rfl⟩;have HW1:=hid (show Below w.heap.size w (w2.drewN (n0+n1)) from HB2.out.trans ((below_drewNQ w2 _).mono HB2.out.size)))
  | (go_at_call 43;(with_reducible refine (HC2.out _ HW1.out).mono ?_);rintro e w3 ⟨rfl,n2,rfl⟩;have HW2:=hid (show Below w.heap.size w (w2.drewN (n0+n1+n2)) from HB2.out.trans ((below_drewNQ w2 _).mono HB2.out.size)))
  | (go_at_call 43;(with_reducible refine (HC3.out _ HW2.out).mono ?_);rintro e w3 ⟨rfl,n3,rfl⟩;have HW3:=hid (show Below w.heap.size w (w2.drewN (n0+n1+n2+n3)) from HB2.out.trans ((below_drewNQ w2 _).mono HB2.out.size))))
 go_ret
 exact ⟨rfl,HW3.out⟩
set_option maxRecDepth 100000 in
set_option maxHeartbeats 4000000 in
theorem eqpo_8 (p q:Po) (pa pb pc pd qa qb qc qd:Option Addr) (nl no nc ns ml mo mc ms ca cb cc cd xa xb xc xd:Nat) (w:World) (hp:PoV (·<w.heap.size) w (.slice pa nl ca) (.slice pb no cb) (.slice pc nc cc) (.slice pd ns cd) p) (hq:PoV (·<w.heap.size) w (.slice qa ml xa) (.slice qb mo xb) (.slice qc mc xc) (.slice qd ms xd) q) (H0:Hid (decide (p.lv=q.lv)=true)) (H1:Hid (decide (p.od=q.od)=true)) (H2:Hid (decide (p.ch=q.ch)=true)) (H3:Hid (decide (p.st=q.st)=true)) (e0:(p.sens == q.sens)=true) (e1:(p.steps == q.steps)=true) (e2:(p.paths == q.paths)=true) (e3:(p.nodes == q.nodes)=true) (e4:(p.conf == q.conf)=false) :
  Calls Tryd.prog 15 #[.agg #[.slice pa nl ca,.slice pb no cb,.slice pc nc cc,.slice pd ns cd,.bool p.sens,.int .i64 p.steps,.int .i64 p.paths,.int .i64 p.nodes,.int .i64 p.conf],.agg #[.slice qa ml xa,.slice qb mo xb,.slice qc mc xc,.slice qd ms xd,.bool q.sens,.int .i64 q.steps,.int .i64 q.paths,.int .i64 q.nodes,.int .i64 q.conf]] w fun e w'=>e = .returned (.bool false)∧Below w.heap.size w w':=by
 have HP:=hid hp;have HQ:=hid hq
 clear hp hq
 have HC0:=hid (fun W (hW:Below w.heap.size w W)=>show Calls Tryd.prog 41 #[.slice pa nl ca,.slice qa ml xa] W (fun e w'=>e = .returned (.bool true)∧∃ n,W.drewN n=w') from by rw [← H0.out];exact se_strs p.lv q.lv _ _ _ _ W (HP.out.1.below hW) (HQ.out.1.below hW))
 have HC1:=hid (fun W (hW:Below w.heap.size w W)=>show Calls Tryd.prog 42 #[.slice pb no cb,.slice qb mo xb] W (fun e w'=>e = .returned (.bool true)∧∃ n,W.drewN n=w') from by rw [← H1.out];exact se_pairs p.od q.od _ _ _ _ W (HP.out.2.1.below hW) (HQ.out.2.1.below hW))
 have HC2:=hid (fun W (hW:Below w.heap.size w W)=>show Calls Tryd.prog 43 #[.slice pc nc cc,.slice qc mc xc] W (fun e w'=>e = .returned (.bool true)∧∃ n,W.drewN n=w') from by rw [← H2.out];exact se_binds p.ch q.ch _ _ _ _ W (HP.out.2.2.1.below hW) (HQ.out.2.2.1.below hW))
 have HC3:=hid (fun W (hW:Below w.heap.size w W)=>show Calls Tryd.prog 43 #[.slice pd ns cd,.slice qd ms xd] W (fun e w'=>e = .returned (.bool true)∧∃ n,W.drewN n=w') from by rw [← H3.out];exact se_binds p.st q.st _ _ _ _ W (HP.out.2.2.2.below hW) (HQ.out.2.2.2.below hW))
 go_enter Tryd.func15,Tryd.ntmps15
 go_upto_region 1 with fail
 obtain ⟨w2,hw2⟩:∃ W,(w.alloc (.cells #[.slice pa nl ca,.slice pb no cb,.slice pc nc cc,.slice pd ns cd,.bool p.sens,.int .i64 p.steps,.int .i64 p.paths,.int .i64 p.nodes,.int .i64 p.conf] 26)).alloc (.cells #[.slice qa ml xa,.slice qb mo xb,.slice qc mc xc,.slice qd ms xd,.bool q.sens,.int .i64 q.steps,.int .i64 q.paths,.int .i64 q.nodes,.int .i64 q.conf] 26)=W:=⟨_,rfl⟩
 have HB2:=hid (show Below w.heap.size w w2 from by rw [← hw2];exact ((Below.refl _ _).alloc (Nat.le_refl _) _).alloc (by rw [World.size_alloc];omega) _)
 have HX:=hid (show BxL 26 w.heap.size [.slice pa nl ca,.slice pb no cb,.slice pc nc cc,.slice pd ns cd,.bool p.sens,.int .i64 p.steps,.int .i64 p.paths,.int .i64 p.nodes,.int .i64 p.conf] w2 from by rw [← hw2];exact (BxL.new _ _ _).al _)
 have HY:=hid (show BxL 26 (w.heap.size+1) [.slice qa ml xa,.slice qb mo xb,.slice qc mc xc,.slice qd ms xd,.bool q.sens,.int .i64 q.steps,.int .i64 q.paths,.int .i64 q.nodes,.int .i64 q.conf] w2 from by rw [← hw2];have h9:=BxL.new 26 (w.alloc (.cells #[.slice pa nl ca,.slice pb no cb,.slice pc nc cc,.slice pd ns cd,.bool p.sens,.int .i64 p.steps,.int .i64 p.paths,.int .i64 p.nodes,.int .i64 p.conf] 26)) [.slice qa ml xa,.slice qb mo xb,.slice qc mc xc,.slice qd ms xd,.bool q.sens,.int .i64 q.steps,.int .i64 q.paths,.int .i64 q.nodes,.int .i64 q.conf];rw [World.size_alloc] at h9;exact h9)
 rw [hw2]
 clear hw2
 have xa0:∀ m,(w2.drewN m).cell? ⟨w.heap.size,0,none⟩=some (.slice pa nl ca):=fun m=>HX.out.at 0 rfl
 have xb0:w2.cell? ⟨w.heap.size,0,none⟩=some (.slice pa nl ca):=HX.out.at 0 rfl
 have xa1:∀ m,(w2.drewN m).cell? ⟨w.heap.size,1,none⟩=some (.slice pb no cb):=fun m=>HX.out.at 1 rfl
 have xb1:w2.cell? ⟨w.heap.size,1,none⟩=some (.slice pb no cb):=HX.out.at 1 rfl
 have xa2:∀ m,(w2.drewN m).cell? ⟨w.heap.size,2,none⟩=some (.slice pc nc cc):=fun m=>HX.out.at 2 rfl
 have xb2:w2.cell? ⟨w.heap.size,2,none⟩=some (.slice pc nc cc):=HX.out.at 2 rfl
 have xa3:∀ m,(w2.drewN m).cell? ⟨w.heap.size,3,none⟩=some (.slice pd ns cd):=fun m=>HX.out.at 3 rfl
 have xb3:w2.cell? ⟨w.heap.size,3,none⟩=some (.slice pd ns cd):=HX.out.at 3 rfl
 have xa4:∀ m,(w2.drewN m).cell? ⟨w.heap.size,4,none⟩=some (.bool p.sens):=fun m=>HX.out.at 4 rfl
 have xb4:w2.cell? ⟨w.heap.size,4,none⟩=some (.bool p.sens):=HX.out.at 4 rfl
 have xa5:∀ m,(w2.drewN m).cell? ⟨w.heap.size,5,none⟩=some (.int .i64 p.steps):=fun m=>HX.out.at 5 rfl
 have xb5:w2.cell? ⟨w.heap.size,5,none⟩=some (.int .i64 p.steps):=HX.out.at 5 rfl
 have xa6:∀ m,(w2.drewN m).cell? ⟨w.heap.size,6,none⟩=some (.int .i64 p.paths):=fun m=>HX.out.at 6 rfl
 have xb6:w2.cell? ⟨w.heap.size,6,none⟩=some (.int .i64 p.paths):=HX.out.at 6 rfl
 have xa7:∀ m,(w2.drewN m).cell? ⟨w.heap.size,7,none⟩=some (.int .i64 p.nodes):=fun m=>HX.out.at 7 rfl
 have xb7:w2.cell? ⟨w.heap.size,7,none⟩=some (.int .i64 p.nodes):=HX.out.at 7 rfl
 have xa8:∀ m,(w2.drewN m).cell? ⟨w.heap.size,8,none⟩=some (.int .i64 p.conf):=fun m=>HX.out.at 8 rfl
 have xb8:w2.cell? ⟨w.heap.size,8,none⟩=some (.int .i64 p.conf):=HX.out.at 8 rfl
 have ya0:∀ m,(w2.drewN m).cell? ⟨w.heap.size+1,0,none⟩=some (.slice qa ml xa):=fun m=>HY.out.at 0 rfl
 have yb0:w2.cell? ⟨w.heap.size+1,0,none⟩=some (.slice qa ml xa):=HY.out.at 0 rfl
 have ya1:∀ m,(w2.drewN m).cell? ⟨w.heap.size+1,1,none⟩=some (.slice qb mo xb):=fun m=>HY.out.at 1 rfl
 have yb1:w2.cell? ⟨w.heap.size+1,1,none⟩=some (.slice qb mo xb):=HY.out.at 1 rfl
 have ya2:∀ m,(w2.drewN m).cell? ⟨w.heap.size+1,2,none⟩=some (.slice qc mc xc):=fun m=>HY.out.at 2 rfl
 have yb2:w2.cell? ⟨w.heap.size+1,2,none⟩=some (.slice qc mc xc):=HY.out.at 2 rfl
 have ya3:∀ m,(w2.drewN m).cell? ⟨w.heap.size+1,3,none⟩=some (.slice qd ms xd):=fun m=>HY.out.at 3 rfl
 have yb3:w2.cell? ⟨w.heap.size+1,3,none⟩=some (.slice qd ms xd):=HY.out.at 3 rfl
 have ya4:∀ m,(w2.drewN m).cell? ⟨w.heap.size+1,4,none⟩=some (.bool q.sens):=fun m=>HY.out.at 4 rfl
 have yb4:w2.cell? ⟨w.heap.size+1,4,none⟩=some (.bool q.sens):=HY.out.at 4 rfl
 have ya5:∀ m,(w2.drewN m).cell? ⟨w.heap.size+1,5,none⟩=some (.int .i64 q.steps):=fun m=>HY.out.at 5 rfl
 have yb5:w2.cell? ⟨w.heap.size+1,5,none⟩=some (.int .i64 q.steps):=HY.out.at 5 rfl
 have ya6:∀ m,(w2.drewN m).cell? ⟨w.heap.size+1,6,none⟩=some (.int .i64 q.paths):=fun m=>HY.out.at 6 rfl
 have yb6:w2.cell? ⟨w.heap.size+1,6,none⟩=some (.int .i64 q.paths):=HY.out.at 6 rfl
 have ya7:∀ m,(w2.drewN m).cell? ⟨w.heap.size+1,7,none⟩=some (.int .i64 q.nodes):=fun m=>HY.out.at 7 rfl
 have yb7:w2.cell? ⟨w.heap.size+1,7,none⟩=some (.int .i64 q.nodes):=HY.out.at 7 rfl
 have ya8:∀ m,(w2.drewN m).cell? ⟨w.heap.size+1,8,none⟩=some (.int .i64 q.conf):=fun m=>HY.out.at 8 rfl
 have yb8:w2.cell? ⟨w.heap.size+1,8,none⟩=some (.int .i64 q.conf):=HY.out.at 8 rfl
 go_wp2_with (first
  | (go_at_call 41;(with_reducible refine (HC0.out _ HB2.out).mono ?_);rintro e w3 ⟨rfl,n0,rfl⟩;have HW0:=hid (show Below w.heap.size w (w2.drewN (n0)) from HB2.out.trans ((below_drewNQ w2 _).mono HB2.out.size)))
  | (go_at_call 42;(with_reducible refine (HC1.out _ HW0.out).mono ?_);rintro e w3 ⟨rfl,n1,rfl⟩;have HW1:=hid (show Below w.heap.size w (w2.drewN (n0+n1)) from HB2.out.trans ((below_drewNQ w2 _).mono HB2.out.size)))
  | (go_at_call 43;(with_reducible refine (HC2.out _ HW1.out).mono ?_);rintro e w3 ⟨rfl,n2,rfl⟩;have HW2:=hid (show Below w.heap.size w (w2.drewN (n0+n1+n2)) from HB2.out.trans ((below_drewNQ w2 _).mono HB2.out.size)))
  | (go_at_call 43;(with_reducible refine (HC3.out _ HW2.out).mono ?_);rintro e w3 ⟨rfl,n3,rfl⟩;have HW3:=hid (show Below w.heap.size w (w2.drewN (n0+n1+n2+n3)) from HB2.out.trans ((below_drewNQ w2 _).mono HB2.out.size))))
 go_ret
 exact ⟨rfl,HW3.out⟩
set_option maxRecDepth 100000 in
set_option maxHeartbeats 4000000 in
theorem eqpo_9 (p q:Po) (pa pb pc pd qa qb qc qd:Option Addr) (nl no nc ns ml mo mc ms ca cb cc cd xa xb xc xd:Nat) (w:World) (hp:PoV (·<w.heap.size) w (.slice pa nl ca) (.slice pb no cb) (.slice pc nc cc) (.slice pd ns cd) p) (hq:PoV (·<w.heap.size) w (.slice qa ml xa) (.slice qb mo xb) (.slice qc mc xc) (.slice qd ms xd) q) (H0:Hid (decide (p.lv=q.lv)=true)) (H1:Hid (decide (p.od=q.od)=true)) (H2:Hid (decide (p.ch=q.ch)=true)) (H3:Hid (decide (p.st=q.st)=true)) (e0:(p.sens == q.sens)=true) (e1:(p.steps == q.steps)=true) (e2:(p.paths == q.paths)=true) (e3:(p.nodes == q.nodes)=true) (e4:(p.conf == q.conf)=true) :
  Calls Tryd.prog 15 #[.agg #[.slice pa nl ca,.slice pb no cb,.slice pc nc cc,.slice pd ns cd,.bool p.sens,.int .i64 p.steps,.int .i64 p.paths,.int .i64 p.nodes,.int .i64 p.conf],.agg #[.slice qa ml xa,.slice qb mo xb,.slice qc mc xc,.slice qd ms xd,.bool q.sens,.int .i64 q.steps,.int .i64 q.paths,.int .i64 q.nodes,.int .i64 q.conf]] w fun e w'=>e = .returned (.bool true)∧Below w.heap.size w w':=by
 have HP:=hid hp;have HQ:=hid hq
 clear hp hq
 have HC0:=hid (fun W (hW:Below w.heap.size w W)=>show Calls Tryd.prog 41 #[.slice pa nl ca,.slice qa ml xa] W (fun e w'=>e = .returned (.bool true)∧∃ n,W.drewN n=w') from by rw [← H0.out];exact se_strs p.lv q.lv _ _ _ _ W (HP.out.1.below hW) (HQ.out.1.below hW))
 have HC1:=hid (fun W (hW:Below w.heap.size w W)=>show Calls Tryd.prog 42 #[.slice pb no cb,.slice qb mo xb] W (fun e w'=>e = .returned (.bool true)∧∃ n,W.drewN n=w') from by rw [← H1.out];exact se_pairs p.od q.od _ _ _ _ W (HP.out.2.1.below hW) (HQ.out.2.1.below hW))
 have HC2:=hid (fun W (hW:Below w.heap.size w W)=>show Calls Tryd.prog 43 #[.slice pc nc cc,.slice qc mc xc] W (fun e w'=>e = .returned (.bool true)∧∃ n,W.drewN n=w') from by rw [← H2.out];exact se_binds p.ch q.ch _ _ _ _ W (HP.out.2.2.1.below hW) (HQ.out.2.2.1.below hW))
 have HC3:=hid (fun W (hW:Below w.heap.size w W)=>show Calls Tryd.prog 43 #[.slice pd ns cd,.slice qd ms xd] W (fun e w'=>e = .returned (.bool true)∧∃ n,W.drewN n=w') from by rw [← H3.out];exact se_binds p.st q.st _ _ _ _ W (HP.out.2.2.2.below hW) (HQ.out.2.2.2.below hW))
 go_enter Tryd.func15,Tryd.ntmps15
 go_upto_region 1 with fail
 obtain ⟨w2,hw2⟩:∃ W,(w.alloc (.cells #[.slice pa nl ca,.slice pb no cb,.slice pc nc cc,.slice pd ns cd,.bool p.sens,.int .i64 p.steps,.int .i64 p.paths,.int .i64 p.nodes,.int .i64 p.conf] 26)).alloc (.cells #[.slice qa ml xa,.slice qb mo xb,.slice qc mc xc,.slice qd ms xd,.bool q.sens,.int .i64 q.steps,.int .i64 q.paths,.int .i64 q.nodes,.int .i64 q.conf] 26)=W:=⟨_,rfl⟩
 have HB2:=hid (show Below w.heap.size w w2 from by rw [← hw2];exact ((Below.refl _ _).alloc (Nat.le_refl _) _).alloc (by rw [World.size_alloc];omega) _)
 have HX:=hid (show BxL 26 w.heap.size [.slice pa nl ca,.slice pb no cb,.slice pc nc cc,.slice pd ns cd,.bool p.sens,.int .i64 p.steps,.int .i64 p.paths,.int .i64 p.nodes,.int .i64 p.conf] w2 from by rw [← hw2];exact (BxL.new _ _ _).al _)
 have HY:=hid (show BxL 26 (w.heap.size+1) [.slice qa ml xa,.slice qb mo xb,.slice qc mc xc,.slice qd ms xd,.bool q.sens,.int .i64 q.steps,.int .i64 q.paths,.int .i64 q.nodes,.int .i64 q.conf] w2 from by rw [← hw2];have h9:=BxL.new 26 (w.alloc (.cells #[.slice pa nl ca,.slice pb no cb,.slice pc nc cc,.slice pd ns cd,.bool p.sens,.int .i64 p.steps,.int .i64 p.paths,.int .i64 p.nodes,.int .i64 p.conf] 26)) [.slice qa ml xa,.slice qb mo xb,.slice qc mc xc,.slice qd ms xd,.bool q.sens,.int .i64 q.steps,.int .i64 q.paths,.int .i64 q.nodes,.int .i64 q.conf];rw [World.size_alloc] at h9;exact h9)
 rw [hw2]
 clear hw2
 have xa0:∀ m,(w2.drewN m).cell? ⟨w.heap.size,0,none⟩=some (.slice pa nl ca):=fun m=>HX.out.at 0 rfl
 have xb0:w2.cell? ⟨w.heap.size,0,none⟩=some (.slice pa nl ca):=HX.out.at 0 rfl
 have xa1:∀ m,(w2.drewN m).cell? ⟨w.heap.size,1,none⟩=some (.slice pb no cb):=fun m=>HX.out.at 1 rfl
 have xb1:w2.cell? ⟨w.heap.size,1,none⟩=some (.slice pb no cb):=HX.out.at 1 rfl
 have xa2:∀ m,(w2.drewN m).cell? ⟨w.heap.size,2,none⟩=some (.slice pc nc cc):=fun m=>HX.out.at 2 rfl
 have xb2:w2.cell? ⟨w.heap.size,2,none⟩=some (.slice pc nc cc):=HX.out.at 2 rfl
 have xa3:∀ m,(w2.drewN m).cell? ⟨w.heap.size,3,none⟩=some (.slice pd ns cd):=fun m=>HX.out.at 3 rfl
 have xb3:w2.cell? ⟨w.heap.size,3,none⟩=some (.slice pd ns cd):=HX.out.at 3 rfl
 have xa4:∀ m,(w2.drewN m).cell? ⟨w.heap.size,4,none⟩=some (.bool p.sens):=fun m=>HX.out.at 4 rfl
 have xb4:w2.cell? ⟨w.heap.size,4,none⟩=some (.bool p.sens):=HX.out.at 4 rfl
 have xa5:∀ m,(w2.drewN m).cell? ⟨w.heap.size,5,none⟩=some (.int .i64 p.steps):=fun m=>HX.out.at 5 rfl
 have xb5:w2.cell? ⟨w.heap.size,5,none⟩=some (.int .i64 p.steps):=HX.out.at 5 rfl
 have xa6:∀ m,(w2.drewN m).cell? ⟨w.heap.size,6,none⟩=some (.int .i64 p.paths):=fun m=>HX.out.at 6 rfl
 have xb6:w2.cell? ⟨w.heap.size,6,none⟩=some (.int .i64 p.paths):=HX.out.at 6 rfl
 have xa7:∀ m,(w2.drewN m).cell? ⟨w.heap.size,7,none⟩=some (.int .i64 p.nodes):=fun m=>HX.out.at 7 rfl
 have xb7:w2.cell? ⟨w.heap.size,7,none⟩=some (.int .i64 p.nodes):=HX.out.at 7 rfl
 have xa8:∀ m,(w2.drewN m).cell? ⟨w.heap.size,8,none⟩=some (.int .i64 p.conf):=fun m=>HX.out.at 8 rfl
 have xb8:w2.cell? ⟨w.heap.size,8,none⟩=some (.int .i64 p.conf):=HX.out.at 8 rfl
 have ya0:∀ m,(w2.drewN m).cell? ⟨w.heap.size+1,0,none⟩=some (.slice qa ml xa):=fun m=>HY.out.at 0 rfl
 have yb0:w2.cell? ⟨w.heap.size+1,0,none⟩=some (.slice qa ml xa):=HY.out.at 0 rfl
 have ya1:∀ m,(w2.drewN m).cell? ⟨w.heap.size+1,1,none⟩=some (.slice qb mo xb):=fun m=>HY.out.at 1 rfl
 have yb1:w2.cell? ⟨w.heap.size+1,1,none⟩=some (.slice qb mo xb):=HY.out.at 1 rfl
 have ya2:∀ m,(w2.drewN m).cell? ⟨w.heap.size+1,2,none⟩=some (.slice qc mc xc):=fun m=>HY.out.at 2 rfl
 have yb2:w2.cell? ⟨w.heap.size+1,2,none⟩=some (.slice qc mc xc):=HY.out.at 2 rfl
 have ya3:∀ m,(w2.drewN m).cell? ⟨w.heap.size+1,3,none⟩=some (.slice qd ms xd):=fun m=>HY.out.at 3 rfl
 have yb3:w2.cell? ⟨w.heap.size+1,3,none⟩=some (.slice qd ms xd):=HY.out.at 3 rfl
 have ya4:∀ m,(w2.drewN m).cell? ⟨w.heap.size+1,4,none⟩=some (.bool q.sens):=fun m=>HY.out.at 4 rfl
 have yb4:w2.cell? ⟨w.heap.size+1,4,none⟩=some (.bool q.sens):=HY.out.at 4 rfl
 have ya5:∀ m,(w2.drewN m).cell? ⟨w.heap.size+1,5,none⟩=some (.int .i64 q.steps):=fun m=>HY.out.at 5 rfl
 have yb5:w2.cell? ⟨w.heap.size+1,5,none⟩=some (.int .i64 q.steps):=HY.out.at 5 rfl
 have ya6:∀ m,(w2.drewN m).cell? ⟨w.heap.size+1,6,none⟩=some (.int .i64 q.paths):=fun m=>HY.out.at 6 rfl
 have yb6:w2.cell? ⟨w.heap.size+1,6,none⟩=some (.int .i64 q.paths):=HY.out.at 6 rfl
 have ya7:∀ m,(w2.drewN m).cell? ⟨w.heap.size+1,7,none⟩=some (.int .i64 q.nodes):=fun m=>HY.out.at 7 rfl
 have yb7:w2.cell? ⟨w.heap.size+1,7,none⟩=some (.int .i64 q.nodes):=HY.out.at 7 rfl
 have ya8:∀ m,(w2.drewN m).cell? ⟨w.heap.size+1,8,none⟩=some (.int .i64 q.conf):=fun m=>HY.out.at 8 rfl
 have yb8:w2.cell? ⟨w.heap.size+1,8,none⟩=some (.int .i64 q.conf):=HY.out.at 8 rfl
 go_wp2_with (first
  | (go_at_call 41;(with_reducible refine (HC0.out _ HB2.out).mono ?_);rintro e w3 ⟨rfl,n0,rfl⟩;have HW0:=hid (show Below w.heap.size w (w2.drewN (n0)) from HB2.out.trans ((below_drewNQ w2 _).mono HB2.out.size)))
  | (go_at_call 42;(with_reducible refine (HC1.out _ HW0.out).mono ?_);rintro e w3 ⟨rfl,n1,rfl⟩;have HW1:=hid (show Below w.heap.size w (w2.drewN (n0+n1)) from HB2.out.trans ((below_drewNQ w2 _).mono HB2.out.size)))
  | (go_at_call 43;(with_reducible refine (HC2.out _ HW1.out).mono ?_);rintro e w3 ⟨rfl,n2,rfl⟩;have HW2:=hid (show Below w.heap.size w (w2.drewN (n0+n1+n2)) from HB2.out.trans ((below_drewNQ w2 _).mono HB2.out.size)))
  | (go_at_call 43;(with_reducible refine (HC3.out _ HW2.out).mono ?_);rintro e w3 ⟨rfl,n3,rfl⟩;have HW3:=hid (show Below w.heap.size w (w2.drewN (n0+n1+n2+n3)) from HB2.out.trans ((below_drewNQ w2 _).mono HB2.out.size))))
 go_ret
 exact ⟨rfl,HW3.out⟩
theorem eqpo_any (p q:Po) (a b c d a' b' c' d':Value) (w:World) (hp:PoV (·<w.heap.size) w a b c d p) (hq:PoV (·<w.heap.size) w a' b' c' d' q) :
  Calls Tryd.prog 15 #[.agg (poL a b c d p).toArray,.agg (poL a' b' c' d' q).toArray] w fun e w'=>e = .returned (.bool (decide (p=q)))∧Below w.heap.size w w':=by
 obtain ⟨pa,ca,h1⟩:=hp.1.slc
 obtain ⟨pb,cb,h2⟩:=hp.2.1.slc
 obtain ⟨pc,cc,h3⟩:=hp.2.2.1.slc
 obtain ⟨pd,cd,h4⟩:=hp.2.2.2.slc
 subst h1 h2 h3 h4
 obtain ⟨qa,xa,h1⟩:=hq.1.slc
 obtain ⟨qb,xb,h2⟩:=hq.2.1.slc
 obtain ⟨qc,xc,h3⟩:=hq.2.2.1.slc
 obtain ⟨qd,xd,h4⟩:=hq.2.2.2.slc
 subst h1 h2 h3 h4
 by_cases h:p.lv=q.lv
 rotate_left
 ·rw [decide_eq_false fun e=>h (congrArg Po.lv e)]
  exact eqpo_0 p q _ _ _ _ _ _ _ _ _ _ _ _ _ _ _ _ _ _ _ _ _ _ _ _ w hp hq   (hid (decide_eq_false h))
 have h0:=h
 clear h
 by_cases h:p.od=q.od
 rotate_left
 ·rw [decide_eq_false fun e=>h (congrArg Po.od e)]
  exact eqpo_1 p q _ _ _ _ _ _ _ _ _ _ _ _ _ _ _ _ _ _ _ _ _ _ _ _ w hp hq (hid (decide_eq_true h0))  (hid (decide_eq_false h))
 have h1:=h
 clear h
 by_cases h:p.ch=q.ch
 rotate_left
 ·rw [decide_eq_false fun e=>h (congrArg Po.ch e)]
  exact eqpo_2 p q _ _ _ _ _ _ _ _ _ _ _ _ _ _ _ _ _ _ _ _ _ _ _ _ w hp hq (hid (decide_eq_true h0)) (hid (decide_eq_true h1))  (hid (decide_eq_false h))
 have h2:=h
 clear h
 by_cases h:p.st=q.st
 rotate_left
 ·rw [decide_eq_false fun e=>h (congrArg Po.st e)]
  exact eqpo_3 p q _ _ _ _ _ _ _ _ _ _ _ _ _ _ _ _ _ _ _ _ _ _ _ _ w hp hq (hid (decide_eq_true h0)) (hid (decide_eq_true h1)) (hid (decide_eq_true h2))  (hid (decide_eq_false h))
 have h3:=h
 clear h
 by_cases h:p.sens=q.sens
 rotate_left
 ·rw [decide_eq_false fun e=>h (congrArg Po.sens e)]
  exact eqpo_4 p q _ _ _ _ _ _ _ _ _ _ _ _ _ _ _ _ _ _ _ _ _ _ _ _ w hp hq (hid (decide_eq_true h0)) (hid (decide_eq_true h1)) (hid (decide_eq_true h2)) (hid (decide_eq_true h3))  (beq_eq_false_iff_ne.2 h)
 have h4:=h
 clear h
 by_cases h:p.steps=q.steps
 rotate_left
 ·rw [decide_eq_false fun e=>h (congrArg Po.steps e)]
  exact eqpo_5 p q _ _ _ _ _ _ _ _ _ _ _ _ _ _ _ _ _ _ _ _ _ _ _ _ w hp hq (hid (decide_eq_true h0)) (hid (decide_eq_true h1)) (hid (decide_eq_true h2)) (hid (decide_eq_true h3)) (beq_iff_eq.2 h4) (beq_eq_false_iff_ne.2 h)
 have h5:=h
 clear h
 by_cases h:p.paths=q.paths
 rotate_left
 ·rw [decide_eq_false fun e=>h (congrArg Po.paths e)]
  exact eqpo_6 p q _ _ _ _ _ _ _ _ _ _ _ _ _ _ _ _ _ _ _ _ _ _ _ _ w hp hq (hid (decide_eq_true h0)) (hid (decide_eq_true h1)) (hid (decide_eq_true h2)) (hid (decide_eq_true h3)) (beq_iff_eq.2 h4) (beq_iff_eq.2 h5) (beq_eq_false_iff_ne.2 h)
 have h6:=h
 clear h
 by_cases h:p.nodes=q.nodes
 rotate_left
 ·rw [decide_eq_false fun e=>h (congrArg Po.nodes e)]
  exact eqpo_7 p q _ _ _ _ _ _ _ _ _ _ _ _ _ _ _ _ _ _ _ _ _ _ _ _ w hp hq (hid (decide_eq_true h0)) (hid (decide_eq_true h1)) (hid (decide_eq_true h2)) (hid (decide_eq_true h3)) (beq_iff_eq.2 h4) (beq_iff_eq.2 h5) (beq_iff_eq.2 h6) (beq_eq_false_iff_ne.2 h)
 have h7:=h
 clear h
 by_cases h:p.conf=q.conf
 rotate_left
 ·rw [decide_eq_false fun e=>h (congrArg Po.conf e)]
  exact eqpo_8 p q _ _ _ _ _ _ _ _ _ _ _ _ _ _ _ _ _ _ _ _ _ _ _ _ w hp hq (hid (decide_eq_true h0)) (hid (decide_eq_true h1)) (hid (decide_eq_true h2)) (hid (decide_eq_true h3)) (beq_iff_eq.2 h4) (beq_iff_eq.2 h5) (beq_iff_eq.2 h6) (beq_iff_eq.2 h7) (beq_eq_false_iff_ne.2 h)
 have h8:=h
 clear h
 rw [decide_eq_true (po_ext h0 h1 h2 h3 h4 h5 h6 h7 h8)]
 exact eqpo_9 p q _ _ _ _ _ _ _ _ _ _ _ _ _ _ _ _ _ _ _ _ _ _ _ _ w hp hq (hid (decide_eq_true h0)) (hid (decide_eq_true h1)) (hid (decide_eq_true h2)) (hid (decide_eq_true h3)) (beq_iff_eq.2 h4) (beq_iff_eq.2 h5) (beq_iff_eq.2 h6) (beq_iff_eq.2 h7) (beq_iff_eq.2 h8)
set_option maxRecDepth 100000 in
set_option maxHeartbeats 4000000 in
theorem keqpo_0 (p q:Po) (pa pb pc pd qa qb qc qd:Option Addr) (nl no nc ns ml mo mc ms ca cb cc cd xa xb xc xd:Nat) (w:World) (hp:PoV (·<w.heap.size) w (.slice pa nl ca) (.slice pb no cb) (.slice pc nc cc) (.slice pd ns cd) p) (hq:PoV (·<w.heap.size) w (.slice qa ml xa) (.slice qb mo xb) (.slice qc mc xc) (.slice qd ms xd) q) (H0:Hid (decide (p.lv=q.lv)=false)) :
  Calls Tryd.prog 16 #[.agg #[.slice pa nl ca,.slice pb no cb,.slice pc nc cc,.slice pd ns cd,.bool p.sens,.int .i64 p.steps,.int .i64 p.paths,.int .i64 p.nodes,.int .i64 p.conf],.agg #[.slice qa ml xa,.slice qb mo xb,.slice qc mc xc,.slice qd ms xd,.bool q.sens,.int .i64 q.steps,.int .i64 q.paths,.int .i64 q.nodes,.int .i64 q.conf]] w fun e w'=>e = .returned (.bool false)∧Below w.heap.size w w':=by
 have HP:=hid hp;have HQ:=hid hq
 clear hp hq
 have HC0:=hid (fun W (hW:Below w.heap.size w W)=>show Calls Tryd.prog 44 #[.slice pa nl ca,.slice qa ml xa] W (fun e w'=>e = .returned (.bool false)∧∃ n,W.drewN n=w') from by rw [← H0.out];exact ke_strs p.lv q.lv _ _ _ _ W (HP.out.1.below hW) (HQ.out.1.below hW))
 go_enter Tryd.func16,Tryd.ntmps16
 go_upto_region 1 with fail
 obtain ⟨w2,hw2⟩:∃ W,(w.alloc (.cells #[.slice pa nl ca,.slice pb no cb,.slice pc nc cc,.slice pd ns cd,.bool p.sens,.int .i64 p.steps,.int .i64 p.paths,.int .i64 p.nodes,.int .i64 p.conf] 26)).alloc (.cells #[.slice qa ml xa,.slice qb mo xb,.slice qc mc xc,.slice qd ms xd,.bool q.sens,.int .i64 q.steps,.int .i64 q.paths,.int .i64 q.nodes,.int .i64 q.conf] 26)=W:=⟨_,rfl⟩
 have HB2:=hid (show Below w.heap.size w w2 from by rw [← hw2];exact ((Below.refl _ _).alloc (Nat.le_refl _) _).alloc (by rw [World.size_alloc];omega) _)
 have HX:=hid (show BxL 26 w.heap.size [.slice pa nl ca,.slice pb no cb,.slice pc nc cc,.slice pd ns cd,.bool p.sens,.int .i64 p.steps,.int .i64 p.paths,.int .i64 p.nodes,.int .i64 p.conf] w2 from by rw [← hw2];exact (BxL.new _ _ _).al _)
 have HY:=hid (show BxL 26 (w.heap.size+1) [.slice qa ml xa,.slice qb mo xb,.slice qc mc xc,.slice qd ms xd,.bool q.sens,.int .i64 q.steps,.int .i64 q.paths,.int .i64 q.nodes,.int .i64 q.conf] w2 from by rw [← hw2];have h9:=BxL.new 26 (w.alloc (.cells #[.slice pa nl ca,.slice pb no cb,.slice pc nc cc,.slice pd ns cd,.bool p.sens,.int .i64 p.steps,.int .i64 p.paths,.int .i64 p.nodes,.int .i64 p.conf] 26)) [.slice qa ml xa,.slice qb mo xb,.slice qc mc xc,.slice qd ms xd,.bool q.sens,.int .i64 q.steps,.int .i64 q.paths,.int .i64 q.nodes,.int .i64 q.conf];rw [World.size_alloc] at h9;exact h9)
 rw [hw2]
 clear hw2
 have xa0:∀ m,(w2.drewN m).cell? ⟨w.heap.size,0,none⟩=some (.slice pa nl ca):=fun m=>HX.out.at 0 rfl
 have xb0:w2.cell? ⟨w.heap.size,0,none⟩=some (.slice pa nl ca):=HX.out.at 0 rfl
 have xa1:∀ m,(w2.drewN m).cell? ⟨w.heap.size,1,none⟩=some (.slice pb no cb):=fun m=>HX.out.at 1 rfl
 have xb1:w2.cell? ⟨w.heap.size,1,none⟩=some (.slice pb no cb):=HX.out.at 1 rfl
 have xa2:∀ m,(w2.drewN m).cell? ⟨w.heap.size,2,none⟩=some (.slice pc nc cc):=fun m=>HX.out.at 2 rfl
 have xb2:w2.cell? ⟨w.heap.size,2,none⟩=some (.slice pc nc cc):=HX.out.at 2 rfl
 have xa3:∀ m,(w2.drewN m).cell? ⟨w.heap.size,3,none⟩=some (.slice pd ns cd):=fun m=>HX.out.at 3 rfl
 have xb3:w2.cell? ⟨w.heap.size,3,none⟩=some (.slice pd ns cd):=HX.out.at 3 rfl
 have xa4:∀ m,(w2.drewN m).cell? ⟨w.heap.size,4,none⟩=some (.bool p.sens):=fun m=>HX.out.at 4 rfl
 have xb4:w2.cell? ⟨w.heap.size,4,none⟩=some (.bool p.sens):=HX.out.at 4 rfl
 have xa5:∀ m,(w2.drewN m).cell? ⟨w.heap.size,5,none⟩=some (.int .i64 p.steps):=fun m=>HX.out.at 5 rfl
 have xb5:w2.cell? ⟨w.heap.size,5,none⟩=some (.int .i64 p.steps):=HX.out.at 5 rfl
 have xa6:∀ m,(w2.drewN m).cell? ⟨w.heap.size,6,none⟩=some (.int .i64 p.paths):=fun m=>HX.out.at 6 rfl
 have xb6:w2.cell? ⟨w.heap.size,6,none⟩=some (.int .i64 p.paths):=HX.out.at 6 rfl
 have xa7:∀ m,(w2.drewN m).cell? ⟨w.heap.size,7,none⟩=some (.int .i64 p.nodes):=fun m=>HX.out.at 7 rfl
 have xb7:w2.cell? ⟨w.heap.size,7,none⟩=some (.int .i64 p.nodes):=HX.out.at 7 rfl
 have xa8:∀ m,(w2.drewN m).cell? ⟨w.heap.size,8,none⟩=some (.int .i64 p.conf):=fun m=>HX.out.at 8 rfl
 have xb8:w2.cell? ⟨w.heap.size,8,none⟩=some (.int .i64 p.conf):=HX.out.at 8 rfl
 have ya0:∀ m,(w2.drewN m).cell? ⟨w.heap.size+1,0,none⟩=some (.slice qa ml xa):=fun m=>HY.out.at 0 rfl
 have yb0:w2.cell? ⟨w.heap.size+1,0,none⟩=some (.slice qa ml xa):=HY.out.at 0 rfl
 have ya1:∀ m,(w2.drewN m).cell? ⟨w.heap.size+1,1,none⟩=some (.slice qb mo xb):=fun m=>HY.out.at 1 rfl
 have yb1:w2.cell? ⟨w.heap.size+1,1,none⟩=some (.slice qb mo xb):=HY.out.at 1 rfl
 have ya2:∀ m,(w2.drewN m).cell? ⟨w.heap.size+1,2,none⟩=some (.slice qc mc xc):=fun m=>HY.out.at 2 rfl
 have yb2:w2.cell? ⟨w.heap.size+1,2,none⟩=some (.slice qc mc xc):=HY.out.at 2 rfl
 have ya3:∀ m,(w2.drewN m).cell? ⟨w.heap.size+1,3,none⟩=some (.slice qd ms xd):=fun m=>HY.out.at 3 rfl
 have yb3:w2.cell? ⟨w.heap.size+1,3,none⟩=some (.slice qd ms xd):=HY.out.at 3 rfl
 have ya4:∀ m,(w2.drewN m).cell? ⟨w.heap.size+1,4,none⟩=some (.bool q.sens):=fun m=>HY.out.at 4 rfl
 have yb4:w2.cell? ⟨w.heap.size+1,4,none⟩=some (.bool q.sens):=HY.out.at 4 rfl
 have ya5:∀ m,(w2.drewN m).cell? ⟨w.heap.size+1,5,none⟩=some (.int .i64 q.steps):=fun m=>HY.out.at 5 rfl
 have yb5:w2.cell? ⟨w.heap.size+1,5,none⟩=some (.int .i64 q.steps):=HY.out.at 5 rfl
 have ya6:∀ m,(w2.drewN m).cell? ⟨w.heap.size+1,6,none⟩=some (.int .i64 q.paths):=fun m=>HY.out.at 6 rfl
 have yb6:w2.cell? ⟨w.heap.size+1,6,none⟩=some (.int .i64 q.paths):=HY.out.at 6 rfl
 have ya7:∀ m,(w2.drewN m).cell? ⟨w.heap.size+1,7,none⟩=some (.int .i64 q.nodes):=fun m=>HY.out.at 7 rfl
 have yb7:w2.cell? ⟨w.heap.size+1,7,none⟩=some (.int .i64 q.nodes):=HY.out.at 7 rfl
 have ya8:∀ m,(w2.drewN m).cell? ⟨w.heap.size+1,8,none⟩=some (.int .i64 q.conf):=fun m=>HY.out.at 8 rfl
 have yb8:w2.cell? ⟨w.heap.size+1,8,none⟩=some (.int .i64 q.conf):=HY.out.at 8 rfl
 go_wp2_with (first
  | (go_at_call 44;(with_reducible refine (HC0.out _ HB2.out).mono ?_);rintro e w3 ⟨rfl,n0,rfl⟩;have HW0:=hid (show Below w.heap.size w (w2.drewN (n0)) from HB2.out.trans ((below_drewNQ w2 _).mono HB2.out.size))))
 go_ret
 exact ⟨rfl,HW0.out⟩
set_option maxRecDepth 100000 in
set_option maxHeartbeats 4000000 in
theorem keqpo_1 (p q:Po) (pa pb pc pd qa qb qc qd:Option Addr) (nl no nc ns ml mo mc ms ca cb cc cd xa xb xc xd:Nat) (w:World) (hp:PoV (·<w.heap.size) w (.slice pa nl ca) (.slice pb no cb) (.slice pc nc cc) (.slice pd ns cd) p) (hq:PoV (·<w.heap.size) w (.slice qa ml xa) (.slice qb mo xb) (.slice qc mc xc) (.slice qd ms xd) q) (H0:Hid (decide (p.lv=q.lv)=true)) (H1:Hid (decide (p.od=q.od)=false)) :
  Calls Tryd.prog 16 #[.agg #[.slice pa nl ca,.slice pb no cb,.slice pc nc cc,.slice pd ns cd,.bool p.sens,.int .i64 p.steps,.int .i64 p.paths,.int .i64 p.nodes,.int .i64 p.conf],.agg #[.slice qa ml xa,.slice qb mo xb,.slice qc mc xc,.slice qd ms xd,.bool q.sens,.int .i64 q.steps,.int .i64 q.paths,.int .i64 q.nodes,.int .i64 q.conf]] w fun e w'=>e = .returned (.bool false)∧Below w.heap.size w w':=by
 have HP:=hid hp;have HQ:=hid hq
 clear hp hq
 have HC0:=hid (fun W (hW:Below w.heap.size w W)=>show Calls Tryd.prog 44 #[.slice pa nl ca,.slice qa ml xa] W (fun e w'=>e = .returned (.bool true)∧∃ n,W.drewN n=w') from by rw [← H0.out];exact ke_strs p.lv q.lv _ _ _ _ W (HP.out.1.below hW) (HQ.out.1.below hW))
 have HC1:=hid (fun W (hW:Below w.heap.size w W)=>show Calls Tryd.prog 45 #[.slice pb no cb,.slice qb mo xb] W (fun e w'=>e = .returned (.bool false)∧∃ n,W.drewN n=w') from by rw [← H1.out];exact ke_pairs p.od q.od _ _ _ _ W (HP.out.2.1.below hW) (HQ.out.2.1.below hW))
 go_enter Tryd.func16,Tryd.ntmps16
 go_upto_region 1 with fail
 obtain ⟨w2,hw2⟩:∃ W,(w.alloc (.cells #[.slice pa nl ca,.slice pb no cb,.slice pc nc cc,.slice pd ns cd,.bool p.sens,.int .i64 p.steps,.int .i64 p.paths,.int .i64 p.nodes,.int .i64 p.conf] 26)).alloc (.cells #[.slice qa ml xa,.slice qb mo xb,.slice qc mc xc,.slice qd ms xd,.bool q.sens,.int .i64 q.steps,.int .i64 q.paths,.int .i64 q.nodes,.int .i64 q.conf] 26)=W:=⟨_,rfl⟩
 have HB2:=hid (show Below w.heap.size w w2 from by rw [← hw2];exact ((Below.refl _ _).alloc (Nat.le_refl _) _).alloc (by rw [World.size_alloc];omega) _)
 have HX:=hid (show BxL 26 w.heap.size [.slice pa nl ca,.slice pb no cb,.slice pc nc cc,.slice pd ns cd,.bool p.sens,.int .i64 p.steps,.int .i64 p.paths,.int .i64 p.nodes,.int .i64 p.conf] w2 from by rw [← hw2];exact (BxL.new _ _ _).al _)
 have HY:=hid (show BxL 26 (w.heap.size+1) [.slice qa ml xa,.slice qb mo xb,.slice qc mc xc,.slice qd ms xd,.bool q.sens,.int .i64 q.steps,.int .i64 q.paths,.int .i64 q.nodes,.int .i64 q.conf] w2 from by rw [← hw2];have h9:=BxL.new 26 (w.alloc (.cells #[.slice pa nl ca,.slice pb no cb,.slice pc nc cc,.slice pd ns cd,.bool p.sens,.int .i64 p.steps,.int .i64 p.paths,.int .i64 p.nodes,.int .i64 p.conf] 26)) [.slice qa ml xa,.slice qb mo xb,.slice qc mc xc,.slice qd ms xd,.bool q.sens,.int .i64 q.steps,.int .i64 q.paths,.int .i64 q.nodes,.int .i64 q.conf];rw [World.size_alloc] at h9;exact h9)
 rw [hw2]
 clear hw2
 have xa0:∀ m,(w2.drewN m).cell? ⟨w.heap.size,0,none⟩=some (.slice pa nl ca):=fun m=>HX.out.at 0 rfl
 have xb0:w2.cell? ⟨w.heap.size,0,none⟩=some (.slice pa nl ca):=HX.out.at 0 rfl
 have xa1:∀ m,(w2.drewN m).cell? ⟨w.heap.size,1,none⟩=some (.slice pb no cb):=fun m=>HX.out.at 1 rfl
 have xb1:w2.cell? ⟨w.heap.size,1,none⟩=some (.slice pb no cb):=HX.out.at 1 rfl
 have xa2:∀ m,(w2.drewN m).cell? ⟨w.heap.size,2,none⟩=some (.slice pc nc cc):=fun m=>HX.out.at 2 rfl
 have xb2:w2.cell? ⟨w.heap.size,2,none⟩=some (.slice pc nc cc):=HX.out.at 2 rfl
 have xa3:∀ m,(w2.drewN m).cell? ⟨w.heap.size,3,none⟩=some (.slice pd ns cd):=fun m=>HX.out.at 3 rfl
 have xb3:w2.cell? ⟨w.heap.size,3,none⟩=some (.slice pd ns cd):=HX.out.at 3 rfl
 have xa4:∀ m,(w2.drewN m).cell? ⟨w.heap.size,4,none⟩=some (.bool p.sens):=fun m=>HX.out.at 4 rfl
 have xb4:w2.cell? ⟨w.heap.size,4,none⟩=some (.bool p.sens):=HX.out.at 4 rfl
 have xa5:∀ m,(w2.drewN m).cell? ⟨w.heap.size,5,none⟩=some (.int .i64 p.steps):=fun m=>HX.out.at 5 rfl
 have xb5:w2.cell? ⟨w.heap.size,5,none⟩=some (.int .i64 p.steps):=HX.out.at 5 rfl
 have xa6:∀ m,(w2.drewN m).cell? ⟨w.heap.size,6,none⟩=some (.int .i64 p.paths):=fun m=>HX.out.at 6 rfl
 have xb6:w2.cell? ⟨w.heap.size,6,none⟩=some (.int .i64 p.paths):=HX.out.at 6 rfl
 have xa7:∀ m,(w2.drewN m).cell? ⟨w.heap.size,7,none⟩=some (.int .i64 p.nodes):=fun m=>HX.out.at 7 rfl
 have xb7:w2.cell? ⟨w.heap.size,7,none⟩=some (.int .i64 p.nodes):=HX.out.at 7 rfl
 have xa8:∀ m,(w2.drewN m).cell? ⟨w.heap.size,8,none⟩=some (.int .i64 p.conf):=fun m=>HX.out.at 8 rfl
 have xb8:w2.cell? ⟨w.heap.size,8,none⟩=some (.int .i64 p.conf):=HX.out.at 8 rfl
 have ya0:∀ m,(w2.drewN m).cell? ⟨w.heap.size+1,0,none⟩=some (.slice qa ml xa):=fun m=>HY.out.at 0 rfl
 have yb0:w2.cell? ⟨w.heap.size+1,0,none⟩=some (.slice qa ml xa):=HY.out.at 0 rfl
 have ya1:∀ m,(w2.drewN m).cell? ⟨w.heap.size+1,1,none⟩=some (.slice qb mo xb):=fun m=>HY.out.at 1 rfl
 have yb1:w2.cell? ⟨w.heap.size+1,1,none⟩=some (.slice qb mo xb):=HY.out.at 1 rfl
 have ya2:∀ m,(w2.drewN m).cell? ⟨w.heap.size+1,2,none⟩=some (.slice qc mc xc):=fun m=>HY.out.at 2 rfl
 have yb2:w2.cell? ⟨w.heap.size+1,2,none⟩=some (.slice qc mc xc):=HY.out.at 2 rfl
 have ya3:∀ m,(w2.drewN m).cell? ⟨w.heap.size+1,3,none⟩=some (.slice qd ms xd):=fun m=>HY.out.at 3 rfl
 have yb3:w2.cell? ⟨w.heap.size+1,3,none⟩=some (.slice qd ms xd):=HY.out.at 3 rfl
 have ya4:∀ m,(w2.drewN m).cell? ⟨w.heap.size+1,4,none⟩=some (.bool q.sens):=fun m=>HY.out.at 4 rfl
 have yb4:w2.cell? ⟨w.heap.size+1,4,none⟩=some (.bool q.sens):=HY.out.at 4 rfl
 have ya5:∀ m,(w2.drewN m).cell? ⟨w.heap.size+1,5,none⟩=some (.int .i64 q.steps):=fun m=>HY.out.at 5 rfl
 have yb5:w2.cell? ⟨w.heap.size+1,5,none⟩=some (.int .i64 q.steps):=HY.out.at 5 rfl
 have ya6:∀ m,(w2.drewN m).cell? ⟨w.heap.size+1,6,none⟩=some (.int .i64 q.paths):=fun m=>HY.out.at 6 rfl
 have yb6:w2.cell? ⟨w.heap.size+1,6,none⟩=some (.int .i64 q.paths):=HY.out.at 6 rfl
 have ya7:∀ m,(w2.drewN m).cell? ⟨w.heap.size+1,7,none⟩=some (.int .i64 q.nodes):=fun m=>HY.out.at 7 rfl
 have yb7:w2.cell? ⟨w.heap.size+1,7,none⟩=some (.int .i64 q.nodes):=HY.out.at 7 rfl
 have ya8:∀ m,(w2.drewN m).cell? ⟨w.heap.size+1,8,none⟩=some (.int .i64 q.conf):=fun m=>HY.out.at 8 rfl
 have yb8:w2.cell? ⟨w.heap.size+1,8,none⟩=some (.int .i64 q.conf):=HY.out.at 8 rfl
 go_wp2_with (first
  | (go_at_call 44;(with_reducible refine (HC0.out _ HB2.out).mono ?_);rintro e w3 ⟨rfl,n0,rfl⟩;have HW0:=hid (show Below w.heap.size w (w2.drewN (n0)) from HB2.out.trans ((below_drewNQ w2 _).mono HB2.out.size)))
  | (go_at_call 45;(with_reducible refine (HC1.out _ HW0.out).mono ?_);rintro e w3 ⟨rfl,n1,rfl⟩;have HW1:=hid (show Below w.heap.size w (w2.drewN (n0+n1)) from HB2.out.trans ((below_drewNQ w2 _).mono HB2.out.size))))
 go_ret
 exact ⟨rfl,HW1.out⟩
set_option maxRecDepth 100000 in
set_option maxHeartbeats 4000000 in
theorem keqpo_2 (p q:Po) (pa pb pc pd qa qb qc qd:Option Addr) (nl no nc ns ml mo mc ms ca cb cc cd xa xb xc xd:Nat) (w:World) (hp:PoV (·<w.heap.size) w (.slice pa nl ca) (.slice pb no cb) (.slice pc nc cc) (.slice pd ns cd) p) (hq:PoV (·<w.heap.size) w (.slice qa ml xa) (.slice qb mo xb) (.slice qc mc xc) (.slice qd ms xd) q) (H0:Hid (decide (p.lv=q.lv)=true)) (H1:Hid (decide (p.od=q.od)=true)) (H2:Hid (decide (p.ch=q.ch)=false)) :
  Calls Tryd.prog 16 #[.agg #[.slice pa nl ca,.slice pb no cb,.slice pc nc cc,.slice pd ns cd,.bool p.sens,.int .i64 p.steps,.int .i64 p.paths,.int .i64 p.nodes,.int .i64 p.conf],.agg #[.slice qa ml xa,.slice qb mo xb,.slice qc mc xc,.slice qd ms xd,.bool q.sens,.int .i64 q.steps,.int .i64 q.paths,.int .i64 q.nodes,.int .i64 q.conf]] w fun e w'=>e = .returned (.bool false)∧Below w.heap.size w w':=by
 have HP:=hid hp;have HQ:=hid hq
 clear hp hq
 have HC0:=hid (fun W (hW:Below w.heap.size w W)=>show Calls Tryd.prog 44 #[.slice pa nl ca,.slice qa ml xa] W (fun e w'=>e = .returned (.bool true)∧∃ n,W.drewN n=w') from by rw [← H0.out];exact ke_strs p.lv q.lv _ _ _ _ W (HP.out.1.below hW) (HQ.out.1.below hW))
 have HC1:=hid (fun W (hW:Below w.heap.size w W)=>show Calls Tryd.prog 45 #[.slice pb no cb,.slice qb mo xb] W (fun e w'=>e = .returned (.bool true)∧∃ n,W.drewN n=w') from by rw [← H1.out];exact ke_pairs p.od q.od _ _ _ _ W (HP.out.2.1.below hW) (HQ.out.2.1.below hW))
 have HC2:=hid (fun W (hW:Below w.heap.size w W)=>show Calls Tryd.prog 46 #[.slice pc nc cc,.slice qc mc xc] W (fun e w'=>e = .returned (.bool false)∧∃ n,W.drewN n=w') from by rw [← H2.out];exact ke_binds p.ch q.ch _ _ _ _ W (HP.out.2.2.1.below hW) (HQ.out.2.2.1.below hW))
 go_enter Tryd.func16,Tryd.ntmps16
 go_upto_region 1 with fail
 obtain ⟨w2,hw2⟩:∃ W,(w.alloc (.cells #[.slice pa nl ca,.slice pb no cb,.slice pc nc cc,.slice pd ns cd,.bool p.sens,.int .i64 p.steps,.int .i64 p.paths,.int .i64 p.nodes,.int .i64 p.conf] 26)).alloc (.cells #[.slice qa ml xa,.slice qb mo xb,.slice qc mc xc,.slice qd ms xd,.bool q.sens,.int .i64 q.steps,.int .i64 q.paths,.int .i64 q.nodes,.int .i64 q.conf] 26)=W:=⟨_,rfl⟩
 have HB2:=hid (show Below w.heap.size w w2 from by rw [← hw2];exact ((Below.refl _ _).alloc (Nat.le_refl _) _).alloc (by rw [World.size_alloc];omega) _)
 have HX:=hid (show BxL 26 w.heap.size [.slice pa nl ca,.slice pb no cb,.slice pc nc cc,.slice pd ns cd,.bool p.sens,.int .i64 p.steps,.int .i64 p.paths,.int .i64 p.nodes,.int .i64 p.conf] w2 from by rw [← hw2];exact (BxL.new _ _ _).al _)
 have HY:=hid (show BxL 26 (w.heap.size+1) [.slice qa ml xa,.slice qb mo xb,.slice qc mc xc,.slice qd ms xd,.bool q.sens,.int .i64 q.steps,.int .i64 q.paths,.int .i64 q.nodes,.int .i64 q.conf] w2 from by rw [← hw2];have h9:=BxL.new 26 (w.alloc (.cells #[.slice pa nl ca,.slice pb no cb,.slice pc nc cc,.slice pd ns cd,.bool p.sens,.int .i64 p.steps,.int .i64 p.paths,.int .i64 p.nodes,.int .i64 p.conf] 26)) [.slice qa ml xa,.slice qb mo xb,.slice qc mc xc,.slice qd ms xd,.bool q.sens,.int .i64 q.steps,.int .i64 q.paths,.int .i64 q.nodes,.int .i64 q.conf];rw [World.size_alloc] at h9;exact h9)
 rw [hw2]
 clear hw2
 have xa0:∀ m,(w2.drewN m).cell? ⟨w.heap.size,0,none⟩=some (.slice pa nl ca):=fun m=>HX.out.at 0 rfl
 have xb0:w2.cell? ⟨w.heap.size,0,none⟩=some (.slice pa nl ca):=HX.out.at 0 rfl
 have xa1:∀ m,(w2.drewN m).cell? ⟨w.heap.size,1,none⟩=some (.slice pb no cb):=fun m=>HX.out.at 1 rfl
 have xb1:w2.cell? ⟨w.heap.size,1,none⟩=some (.slice pb no cb):=HX.out.at 1 rfl
 have xa2:∀ m,(w2.drewN m).cell? ⟨w.heap.size,2,none⟩=some (.slice pc nc cc):=fun m=>HX.out.at 2 rfl
 have xb2:w2.cell? ⟨w.heap.size,2,none⟩=some (.slice pc nc cc):=HX.out.at 2 rfl
 have xa3:∀ m,(w2.drewN m).cell? ⟨w.heap.size,3,none⟩=some (.slice pd ns cd):=fun m=>HX.out.at 3 rfl
 have xb3:w2.cell? ⟨w.heap.size,3,none⟩=some (.slice pd ns cd):=HX.out.at 3 rfl
 have xa4:∀ m,(w2.drewN m).cell? ⟨w.heap.size,4,none⟩=some (.bool p.sens):=fun m=>HX.out.at 4 rfl
 have xb4:w2.cell? ⟨w.heap.size,4,none⟩=some (.bool p.sens):=HX.out.at 4 rfl
 have xa5:∀ m,(w2.drewN m).cell? ⟨w.heap.size,5,none⟩=some (.int .i64 p.steps):=fun m=>HX.out.at 5 rfl
 have xb5:w2.cell? ⟨w.heap.size,5,none⟩=some (.int .i64 p.steps):=HX.out.at 5 rfl
 have xa6:∀ m,(w2.drewN m).cell? ⟨w.heap.size,6,none⟩=some (.int .i64 p.paths):=fun m=>HX.out.at 6 rfl
 have xb6:w2.cell? ⟨w.heap.size,6,none⟩=some (.int .i64 p.paths):=HX.out.at 6 rfl
 have xa7:∀ m,(w2.drewN m).cell? ⟨w.heap.size,7,none⟩=some (.int .i64 p.nodes):=fun m=>HX.out.at 7 rfl
 have xb7:w2.cell? ⟨w.heap.size,7,none⟩=some (.int .i64 p.nodes):=HX.out.at 7 rfl
 have xa8:∀ m,(w2.drewN m).cell? ⟨w.heap.size,8,none⟩=some (.int .i64 p.conf):=fun m=>HX.out.at 8 rfl
 have xb8:w2.cell? ⟨w.heap.size,8,none⟩=some (.int .i64 p.conf):=HX.out.at 8 rfl
 have ya0:∀ m,(w2.drewN m).cell? ⟨w.heap.size+1,0,none⟩=some (.slice qa ml xa):=fun m=>HY.out.at 0 rfl
 have yb0:w2.cell? ⟨w.heap.size+1,0,none⟩=some (.slice qa ml xa):=HY.out.at 0 rfl
 have ya1:∀ m,(w2.drewN m).cell? ⟨w.heap.size+1,1,none⟩=some (.slice qb mo xb):=fun m=>HY.out.at 1 rfl
 have yb1:w2.cell? ⟨w.heap.size+1,1,none⟩=some (.slice qb mo xb):=HY.out.at 1 rfl
 have ya2:∀ m,(w2.drewN m).cell? ⟨w.heap.size+1,2,none⟩=some (.slice qc mc xc):=fun m=>HY.out.at 2 rfl
 have yb2:w2.cell? ⟨w.heap.size+1,2,none⟩=some (.slice qc mc xc):=HY.out.at 2 rfl
 have ya3:∀ m,(w2.drewN m).cell? ⟨w.heap.size+1,3,none⟩=some (.slice qd ms xd):=fun m=>HY.out.at 3 rfl
 have yb3:w2.cell? ⟨w.heap.size+1,3,none⟩=some (.slice qd ms xd):=HY.out.at 3 rfl
 have ya4:∀ m,(w2.drewN m).cell? ⟨w.heap.size+1,4,none⟩=some (.bool q.sens):=fun m=>HY.out.at 4 rfl
 have yb4:w2.cell? ⟨w.heap.size+1,4,none⟩=some (.bool q.sens):=HY.out.at 4 rfl
 have ya5:∀ m,(w2.drewN m).cell? ⟨w.heap.size+1,5,none⟩=some (.int .i64 q.steps):=fun m=>HY.out.at 5 rfl
 have yb5:w2.cell? ⟨w.heap.size+1,5,none⟩=some (.int .i64 q.steps):=HY.out.at 5 rfl
 have ya6:∀ m,(w2.drewN m).cell? ⟨w.heap.size+1,6,none⟩=some (.int .i64 q.paths):=fun m=>HY.out.at 6 rfl
 have yb6:w2.cell? ⟨w.heap.size+1,6,none⟩=some (.int .i64 q.paths):=HY.out.at 6 rfl
 have ya7:∀ m,(w2.drewN m).cell? ⟨w.heap.size+1,7,none⟩=some (.int .i64 q.nodes):=fun m=>HY.out.at 7 rfl
 have yb7:w2.cell? ⟨w.heap.size+1,7,none⟩=some (.int .i64 q.nodes):=HY.out.at 7 rfl
 have ya8:∀ m,(w2.drewN m).cell? ⟨w.heap.size+1,8,none⟩=some (.int .i64 q.conf):=fun m=>HY.out.at 8 rfl
 have yb8:w2.cell? ⟨w.heap.size+1,8,none⟩=some (.int .i64 q.conf):=HY.out.at 8 rfl
 go_wp2_with (first
  | (go_at_call 44;(with_reducible refine (HC0.out _ HB2.out).mono ?_);rintro e w3 ⟨rfl,n0,rfl⟩;have HW0:=hid (show Below w.heap.size w (w2.drewN (n0)) from HB2.out.trans ((below_drewNQ w2 _).mono HB2.out.size)))
  | (go_at_call 45;(with_reducible refine (HC1.out _ HW0.out).mono ?_);rintro e w3 ⟨rfl,n1,rfl⟩;have HW1:=hid (show Below w.heap.size w (w2.drewN (n0+n1)) from HB2.out.trans ((below_drewNQ w2 _).mono HB2.out.size)))
  | (go_at_call 46;(with_reducible refine (HC2.out _ HW1.out).mono ?_);rintro e w3 ⟨rfl,n2,rfl⟩;have HW2:=hid (show Below w.heap.size w (w2.drewN (n0+n1+n2)) from HB2.out.trans ((below_drewNQ w2 _).mono HB2.out.size))))
 go_ret
 exact ⟨rfl,HW2.out⟩
set_option maxRecDepth 100000 in
set_option maxHeartbeats 4000000 in
theorem keqpo_3 (p q:Po) (pa pb pc pd qa qb qc qd:Option Addr) (nl no nc ns ml mo mc ms ca cb cc cd xa xb xc xd:Nat) (w:World) (hp:PoV (·<w.heap.size) w (.slice pa nl ca) (.slice pb no cb) (.slice pc nc cc) (.slice pd ns cd) p) (hq:PoV (·<w.heap.size) w (.slice qa ml xa) (.slice qb mo xb) (.slice qc mc xc) (.slice qd ms xd) q) (H0:Hid (decide (p.lv=q.lv)=true)) (H1:Hid (decide (p.od=q.od)=true)) (H2:Hid (decide (p.ch=q.ch)=true)) (H3:Hid (decide (p.st=q.st)=false)) :
  Calls Tryd.prog 16 #[.agg #[.slice pa nl ca,.slice pb no cb,.slice pc nc cc,.slice pd ns cd,.bool p.sens,.int .i64 p.steps,.int .i64 p.paths,.int .i64 p.nodes,.int .i64 p.conf],.agg #[.slice qa ml xa,.slice qb mo xb,.slice qc mc xc,.slice qd ms xd,.bool q.sens,.int .i64 q.steps,.int .i64 q.paths,.int .i64 q.nodes,.int .i64 q.conf]] w fun e w'=>e = .returned (.bool false)∧Below w.heap.size w w':=by
 have HP:=hid hp;have HQ:=hid hq
 clear hp hq
 have HC0:=hid (fun W (hW:Below w.heap.size w W)=>show Calls Tryd.prog 44 #[.slice pa nl ca,.slice qa ml xa] W (fun e w'=>e = .returned (.bool true)∧∃ n,W.drewN n=w') from by rw [← H0.out];exact ke_strs p.lv q.lv _ _ _ _ W (HP.out.1.below hW) (HQ.out.1.below hW))
 have HC1:=hid (fun W (hW:Below w.heap.size w W)=>show Calls Tryd.prog 45 #[.slice pb no cb,.slice qb mo xb] W (fun e w'=>e = .returned (.bool true)∧∃ n,W.drewN n=w') from by rw [← H1.out];exact ke_pairs p.od q.od _ _ _ _ W (HP.out.2.1.below hW) (HQ.out.2.1.below hW))
 have HC2:=hid (fun W (hW:Below w.heap.size w W)=>show Calls Tryd.prog 46 #[.slice pc nc cc,.slice qc mc xc] W (fun e w'=>e = .returned (.bool true)∧∃ n,W.drewN n=w') from by rw [← H2.out];exact ke_binds p.ch q.ch _ _ _ _ W (HP.out.2.2.1.below hW) (HQ.out.2.2.1.below hW))
 have HC3:=hid (fun W (hW:Below w.heap.size w W)=>show Calls Tryd.prog 46 #[.slice pd ns cd,.slice qd ms xd] W (fun e w'=>e = .returned (.bool false)∧∃ n,W.drewN n=w') from by rw [← H3.out];exact ke_binds p.st q.st _ _ _ _ W (HP.out.2.2.2.below hW) (HQ.out.2.2.2.below hW))
 go_enter Tryd.func16,Tryd.ntmps16
 go_upto_region 1 with fail
 obtain ⟨w2,hw2⟩:∃ W,(w.alloc (.cells #[.slice pa nl ca,.slice pb no cb,.slice pc nc cc,.slice pd ns cd,.bool p.sens,.int .i64 p.steps,.int .i64 p.paths,.int .i64 p.nodes,.int .i64 p.conf] 26)).alloc (.cells #[.slice qa ml xa,.slice qb mo xb,.slice qc mc xc,.slice qd ms xd,.bool q.sens,.int .i64 q.steps,.int .i64 q.paths,.int .i64 q.nodes,.int .i64 q.conf] 26)=W:=⟨_,rfl⟩
 have HB2:=hid (show Below w.heap.size w w2 from by rw [← hw2];exact ((Below.refl _ _).alloc (Nat.le_refl _) _).alloc (by rw [World.size_alloc];omega) _)
 have HX:=hid (show BxL 26 w.heap.size [.slice pa nl ca,.slice pb no cb,.slice pc nc cc,.slice pd ns cd,.bool p.sens,.int .i64 p.steps,.int .i64 p.paths,.int .i64 p.nodes,.int .i64 p.conf] w2 from by rw [← hw2];exact (BxL.new _ _ _).al _)
 have HY:=hid (show BxL 26 (w.heap.size+1) [.slice qa ml xa,.slice qb mo xb,.slice qc mc xc,.slice qd ms xd,.bool q.sens,.int .i64 q.steps,.int .i64 q.paths,.int .i64 q.nodes,.int .i64 q.conf] w2 from by rw [← hw2];have h9:=BxL.new 26 (w.alloc (.cells #[.slice pa nl ca,.slice pb no cb,.slice pc nc cc,.slice pd ns cd,.bool p.sens,.int .i64 p.steps,.int .i64 p.paths,.int .i64 p.nodes,.int .i64 p.conf] 26)) [.slice qa ml xa,.slice qb mo xb,.slice qc mc xc,.slice qd ms xd,.bool q.sens,.int .i64 q.steps,.int .i64 q.paths,.int .i64 q.nodes,.int .i64 q.conf];rw [World.size_alloc] at h9;exact h9)
 rw [hw2]
 clear hw2
 have xa0:∀ m,(w2.drewN m).cell? ⟨w.heap.size,0,none⟩=some (.slice pa nl ca):=fun m=>HX.out.at 0 rfl
 have xb0:w2.cell? ⟨w.heap.size,0,none⟩=some (.slice pa nl ca):=HX.out.at 0 rfl
 have xa1:∀ m,(w2.drewN m).cell? ⟨w.heap.size,1,none⟩=some (.slice pb no cb):=fun m=>HX.out.at 1 rfl
 have xb1:w2.cell? ⟨w.heap.size,1,none⟩=some (.slice pb no cb):=HX.out.at 1 rfl
 have xa2:∀ m,(w2.drewN m).cell? ⟨w.heap.size,2,none⟩=some (.slice pc nc cc):=fun m=>HX.out.at 2 rfl
 have xb2:w2.cell? ⟨w.heap.size,2,none⟩=some (.slice pc nc cc):=HX.out.at 2 rfl
 have xa3:∀ m,(w2.drewN m).cell? ⟨w.heap.size,3,none⟩=some (.slice pd ns cd):=fun m=>HX.out.at 3 rfl
 have xb3:w2.cell? ⟨w.heap.size,3,none⟩=some (.slice pd ns cd):=HX.out.at 3 rfl
 have xa4:∀ m,(w2.drewN m).cell? ⟨w.heap.size,4,none⟩=some (.bool p.sens):=fun m=>HX.out.at 4 rfl
 have xb4:w2.cell? ⟨w.heap.size,4,none⟩=some (.bool p.sens):=HX.out.at 4 rfl
 have xa5:∀ m,(w2.drewN m).cell? ⟨w.heap.size,5,none⟩=some (.int .i64 p.steps):=fun m=>HX.out.at 5 rfl
 have xb5:w2.cell? ⟨w.heap.size,5,none⟩=some (.int .i64 p.steps):=HX.out.at 5 rfl
 have xa6:∀ m,(w2.drewN m).cell? ⟨w.heap.size,6,none⟩=some (.int .i64 p.paths):=fun m=>HX.out.at 6 rfl
 have xb6:w2.cell? ⟨w.heap.size,6,none⟩=some (.int .i64 p.paths):=HX.out.at 6 rfl
 have xa7:∀ m,(w2.drewN m).cell? ⟨w.heap.size,7,none⟩=some (.int .i64 p.nodes):=fun m=>HX.out.at 7 rfl
 have xb7:w2.cell? ⟨w.heap.size,7,none⟩=some (.int .i64 p.nodes):=HX.out.at 7 rfl
 have xa8:∀ m,(w2.drewN m).cell? ⟨w.heap.size,8,none⟩=some (.int .i64 p.conf):=fun m=>HX.out.at 8 rfl
 have xb8:w2.cell? ⟨w.heap.size,8,none⟩=some (.int .i64 p.conf):=HX.out.at 8 rfl
 have ya0:∀ m,(w2.drewN m).cell? ⟨w.heap.size+1,0,none⟩=some (.slice qa ml xa):=fun m=>HY.out.at 0 rfl
 have yb0:w2.cell? ⟨w.heap.size+1,0,none⟩=some (.slice qa ml xa):=HY.out.at 0 rfl
 have ya1:∀ m,(w2.drewN m).cell? ⟨w.heap.size+1,1,none⟩=some (.slice qb mo xb):=fun m=>HY.out.at 1 rfl
 have yb1:w2.cell? ⟨w.heap.size+1,1,none⟩=some (.slice qb mo xb):=HY.out.at 1 rfl
 have ya2:∀ m,(w2.drewN m).cell? ⟨w.heap.size+1,2,none⟩=some (.slice qc mc xc):=fun m=>HY.out.at 2 rfl
 have yb2:w2.cell? ⟨w.heap.size+1,2,none⟩=some (.slice qc mc xc):=HY.out.at 2 rfl
 have ya3:∀ m,(w2.drewN m).cell? ⟨w.heap.size+1,3,none⟩=some (.slice qd ms xd):=fun m=>HY.out.at 3 rfl
 have yb3:w2.cell? ⟨w.heap.size+1,3,none⟩=some (.slice qd ms xd):=HY.out.at 3 rfl
 have ya4:∀ m,(w2.drewN m).cell? ⟨w.heap.size+1,4,none⟩=some (.bool q.sens):=fun m=>HY.out.at 4 rfl
 have yb4:w2.cell? ⟨w.heap.size+1,4,none⟩=some (.bool q.sens):=HY.out.at 4 rfl
 have ya5:∀ m,(w2.drewN m).cell? ⟨w.heap.size+1,5,none⟩=some (.int .i64 q.steps):=fun m=>HY.out.at 5 rfl
 have yb5:w2.cell? ⟨w.heap.size+1,5,none⟩=some (.int .i64 q.steps):=HY.out.at 5 rfl
 have ya6:∀ m,(w2.drewN m).cell? ⟨w.heap.size+1,6,none⟩=some (.int .i64 q.paths):=fun m=>HY.out.at 6 rfl
 have yb6:w2.cell? ⟨w.heap.size+1,6,none⟩=some (.int .i64 q.paths):=HY.out.at 6 rfl
 have ya7:∀ m,(w2.drewN m).cell? ⟨w.heap.size+1,7,none⟩=some (.int .i64 q.nodes):=fun m=>HY.out.at 7 rfl
 have yb7:w2.cell? ⟨w.heap.size+1,7,none⟩=some (.int .i64 q.nodes):=HY.out.at 7 rfl
 have ya8:∀ m,(w2.drewN m).cell? ⟨w.heap.size+1,8,none⟩=some (.int .i64 q.conf):=fun m=>HY.out.at 8 rfl
 have yb8:w2.cell? ⟨w.heap.size+1,8,none⟩=some (.int .i64 q.conf):=HY.out.at 8 rfl
 go_wp2_with (first
  | (go_at_call 44;(with_reducible refine (HC0.out _ HB2.out).mono ?_);rintro e w3 ⟨rfl,n0,rfl⟩;have HW0:=hid (show Below w.heap.size w (w2.drewN (n0)) from HB2.out.trans ((below_drewNQ w2 _).mono HB2.out.size)))
  | (go_at_call 45;(with_reducible refine (HC1.out _ HW0.out).mono ?_);rintro e w3 ⟨rfl,n1,rfl⟩;have HW1:=hid (show Below w.heap.size w (w2.drewN (n0+n1)) from HB2.out.trans ((below_drewNQ w2 _).mono HB2.out.size)))
  | (go_at_call 46;(with_reducible refine (HC2.out _ HW1.out).mono ?_);rintro e w3 ⟨rfl,n2,rfl⟩;have HW2:=hid (show Below w.heap.size w (w2.drewN (n0+n1+n2)) from HB2.out.trans ((below_drewNQ w2 _).mono HB2.out.size)))
  | (go_at_call 46;(with_reducible refine (HC3.out _ HW2.out).mono ?_);rintro e w3 ⟨rfl,n3,rfl⟩;have HW3:=hid (show Below w.heap.size w (w2.drewN (n0+n1+n2+n3)) from HB2.out.trans ((below_drewNQ w2 _).mono HB2.out.size))))
 go_ret
 exact ⟨rfl,HW3.out⟩
set_option maxRecDepth 100000 in
set_option maxHeartbeats 4000000 in
theorem keqpo_4 (p q:Po) (pa pb pc pd qa qb qc qd:Option Addr) (nl no nc ns ml mo mc ms ca cb cc cd xa xb xc xd:Nat) (w:World) (hp:PoV (·<w.heap.size) w (.slice pa nl ca) (.slice pb no cb) (.slice pc nc cc) (.slice pd ns cd) p) (hq:PoV (·<w.heap.size) w (.slice qa ml xa) (.slice qb mo xb) (.slice qc mc xc) (.slice qd ms xd) q) (H0:Hid (decide (p.lv=q.lv)=true)) (H1:Hid (decide (p.od=q.od)=true)) (H2:Hid (decide (p.ch=q.ch)=true)) (H3:Hid (decide (p.st=q.st)=true)) (e0:(p.sens == q.sens)=false) :
  Calls Tryd.prog 16 #[.agg #[.slice pa nl ca,.slice pb no cb,.slice pc nc cc,.slice pd ns cd,.bool p.sens,.int .i64 p.steps,.int .i64 p.paths,.int .i64 p.nodes,.int .i64 p.conf],.agg #[.slice qa ml xa,.slice qb mo xb,.slice qc mc xc,.slice qd ms xd,.bool q.sens,.int .i64 q.steps,.int .i64 q.paths,.int .i64 q.nodes,.int .i64 q.conf]] w fun e w'=>e = .returned (.bool false)∧Below w.heap.size w w':=by
 have HP:=hid hp;have HQ:=hid hq
 clear hp hq
 have HC0:=hid (fun W (hW:Below w.heap.size w W)=>show Calls Tryd.prog 44 #[.slice pa nl ca,.slice qa ml xa] W (fun e w'=>e = .returned (.bool true)∧∃ n,W.drewN n=w') from by rw [← H0.out];exact ke_strs p.lv q.lv _ _ _ _ W (HP.out.1.below hW) (HQ.out.1.below hW))
 have HC1:=hid (fun W (hW:Below w.heap.size w W)=>show Calls Tryd.prog 45 #[.slice pb no cb,.slice qb mo xb] W (fun e w'=>e = .returned (.bool true)∧∃ n,W.drewN n=w') from by rw [← H1.out];exact ke_pairs p.od q.od _ _ _ _ W (HP.out.2.1.below hW) (HQ.out.2.1.below hW))
 have HC2:=hid (fun W (hW:Below w.heap.size w W)=>show Calls Tryd.prog 46 #[.slice pc nc cc,.slice qc mc xc] W (fun e w'=>e = .returned (.bool true)∧∃ n,W.drewN n=w') from by rw [← H2.out];exact ke_binds p.ch q.ch _ _ _ _ W (HP.out.2.2.1.below hW) (HQ.out.2.2.1.below hW))
 have HC3:=hid (fun W (hW:Below w.heap.size w W)=>show Calls Tryd.prog 46 #[.slice pd ns cd,.slice qd ms xd] W (fun e w'=>e = .returned (.bool true)∧∃ n,W.drewN n=w') from by rw [← H3.out];exact ke_binds p.st q.st _ _ _ _ W (HP.out.2.2.2.below hW) (HQ.out.2.2.2.below hW))
 go_enter Tryd.func16,Tryd.ntmps16
 go_upto_region 1 with fail
 obtain ⟨w2,hw2⟩:∃ W,(w.alloc (.cells #[.slice pa nl ca,.slice pb no cb,.slice pc nc cc,.slice pd ns cd,.bool p.sens,.int .i64 p.steps,.int .i64 p.paths,.int .i64 p.nodes,.int .i64 p.conf] 26)).alloc (.cells #[.slice qa ml xa,.slice qb mo xb,.slice qc mc xc,.slice qd ms xd,.bool q.sens,.int .i64 q.steps,.int .i64 q.paths,.int .i64 q.nodes,.int .i64 q.conf] 26)=W:=⟨_,rfl⟩
 have HB2:=hid (show Below w.heap.size w w2 from by rw [← hw2];exact ((Below.refl _ _).alloc (Nat.le_refl _) _).alloc (by rw [World.size_alloc];omega) _)
 have HX:=hid (show BxL 26 w.heap.size [.slice pa nl ca,.slice pb no cb,.slice pc nc cc,.slice pd ns cd,.bool p.sens,.int .i64 p.steps,.int .i64 p.paths,.int .i64 p.nodes,.int .i64 p.conf] w2 from by rw [← hw2];exact (BxL.new _ _ _).al _)
 have HY:=hid (show BxL 26 (w.heap.size+1) [.slice qa ml xa,.slice qb mo xb,.slice qc mc xc,.slice qd ms xd,.bool q.sens,.int .i64 q.steps,.int .i64 q.paths,.int .i64 q.nodes,.int .i64 q.conf] w2 from by rw [← hw2];have h9:=BxL.new 26 (w.alloc (.cells #[.slice pa nl ca,.slice pb no cb,.slice pc nc cc,.slice pd ns cd,.bool p.sens,.int .i64 p.steps,.int .i64 p.paths,.int .i64 p.nodes,.int .i64 p.conf] 26)) [.slice qa ml xa,.slice qb mo xb,.slice qc mc xc,.slice qd ms xd,.bool q.sens,.int .i64 q.steps,.int .i64 q.paths,.int .i64 q.nodes,.int .i64 q.conf];rw [World.size_alloc] at h9;exact h9)
 rw [hw2]
 clear hw2
 have xa0:∀ m,(w2.drewN m).cell? ⟨w.heap.size,0,none⟩=some (.slice pa nl ca):=fun m=>HX.out.at 0 rfl
 have xb0:w2.cell? ⟨w.heap.size,0,none⟩=some (.slice pa nl ca):=HX.out.at 0 rfl
 have xa1:∀ m,(w2.drewN m).cell? ⟨w.heap.size,1,none⟩=some (.slice pb no cb):=fun m=>HX.out.at 1 rfl
 have xb1:w2.cell? ⟨w.heap.size,1,none⟩=some (.slice pb no cb):=HX.out.at 1 rfl
 have xa2:∀ m,(w2.drewN m).cell? ⟨w.heap.size,2,none⟩=some (.slice pc nc cc):=fun m=>HX.out.at 2 rfl
 have xb2:w2.cell? ⟨w.heap.size,2,none⟩=some (.slice pc nc cc):=HX.out.at 2 rfl
 have xa3:∀ m,(w2.drewN m).cell? ⟨w.heap.size,3,none⟩=some (.slice pd ns cd):=fun m=>HX.out.at 3 rfl
 have xb3:w2.cell? ⟨w.heap.size,3,none⟩=some (.slice pd ns cd):=HX.out.at 3 rfl
 have xa4:∀ m,(w2.drewN m).cell? ⟨w.heap.size,4,none⟩=some (.bool p.sens):=fun m=>HX.out.at 4 rfl
 have xb4:w2.cell? ⟨w.heap.size,4,none⟩=some (.bool p.sens):=HX.out.at 4 rfl
 have xa5:∀ m,(w2.drewN m).cell? ⟨w.heap.size,5,none⟩=some (.int .i64 p.steps):=fun m=>HX.out.at 5 rfl
 have xb5:w2.cell? ⟨w.heap.size,5,none⟩=some (.int .i64 p.steps):=HX.out.at 5 rfl
 have xa6:∀ m,(w2.drewN m).cell? ⟨w.heap.size,6,none⟩=some (.int .i64 p.paths):=fun m=>HX.out.at 6 rfl
 have xb6:w2.cell? ⟨w.heap.size,6,none⟩=some (.int .i64 p.paths):=HX.out.at 6 rfl
 have xa7:∀ m,(w2.drewN m).cell? ⟨w.heap.size,7,none⟩=some (.int .i64 p.nodes):=fun m=>HX.out.at 7 rfl
 have xb7:w2.cell? ⟨w.heap.size,7,none⟩=some (.int .i64 p.nodes):=HX.out.at 7 rfl
 have xa8:∀ m,(w2.drewN m).cell? ⟨w.heap.size,8,none⟩=some (.int .i64 p.conf):=fun m=>HX.out.at 8 rfl
 have xb8:w2.cell? ⟨w.heap.size,8,none⟩=some (.int .i64 p.conf):=HX.out.at 8 rfl
 have ya0:∀ m,(w2.drewN m).cell? ⟨w.heap.size+1,0,none⟩=some (.slice qa ml xa):=fun m=>HY.out.at 0 rfl
 have yb0:w2.cell? ⟨w.heap.size+1,0,none⟩=some (.slice qa ml xa):=HY.out.at 0 rfl
 have ya1:∀ m,(w2.drewN m).cell? ⟨w.heap.size+1,1,none⟩=some (.slice qb mo xb):=fun m=>HY.out.at 1 rfl
 have yb1:w2.cell? ⟨w.heap.size+1,1,none⟩=some (.slice qb mo xb):=HY.out.at 1 rfl
 have ya2:∀ m,(w2.drewN m).cell? ⟨w.heap.size+1,2,none⟩=some (.slice qc mc xc):=fun m=>HY.out.at 2 rfl
 have yb2:w2.cell? ⟨w.heap.size+1,2,none⟩=some (.slice qc mc xc):=HY.out.at 2 rfl
 have ya3:∀ m,(w2.drewN m).cell? ⟨w.heap.size+1,3,none⟩=some (.slice qd ms xd):=fun m=>HY.out.at 3 rfl
 have yb3:w2.cell? ⟨w.heap.size+1,3,none⟩=some (.slice qd ms xd):=HY.out.at 3 rfl
 have ya4:∀ m,(w2.drewN m).cell? ⟨w.heap.size+1,4,none⟩=some (.bool q.sens):=fun m=>HY.out.at 4 rfl
 have yb4:w2.cell? ⟨w.heap.size+1,4,none⟩=some (.bool q.sens):=HY.out.at 4 rfl
 have ya5:∀ m,(w2.drewN m).cell? ⟨w.heap.size+1,5,none⟩=some (.int .i64 q.steps):=fun m=>HY.out.at 5 rfl
 have yb5:w2.cell? ⟨w.heap.size+1,5,none⟩=some (.int .i64 q.steps):=HY.out.at 5 rfl
 have ya6:∀ m,(w2.drewN m).cell? ⟨w.heap.size+1,6,none⟩=some (.int .i64 q.paths):=fun m=>HY.out.at 6 rfl
 have yb6:w2.cell? ⟨w.heap.size+1,6,none⟩=some (.int .i64 q.paths):=HY.out.at 6 rfl
 have ya7:∀ m,(w2.drewN m).cell? ⟨w.heap.size+1,7,none⟩=some (.int .i64 q.nodes):=fun m=>HY.out.at 7 rfl
 have yb7:w2.cell? ⟨w.heap.size+1,7,none⟩=some (.int .i64 q.nodes):=HY.out.at 7 rfl
 have ya8:∀ m,(w2.drewN m).cell? ⟨w.heap.size+1,8,none⟩=some (.int .i64 q.conf):=fun m=>HY.out.at 8 rfl
 have yb8:w2.cell? ⟨w.heap.size+1,8,none⟩=some (.int .i64 q.conf):=HY.out.at 8 rfl
 go_wp2_with (first
  | (go_at_call 44;(with_reducible refine (HC0.out _ HB2.out).mono ?_);rintro e w3 ⟨rfl,n0,rfl⟩;have HW0:=hid (show Below w.heap.size w (w2.drewN (n0)) from HB2.out.trans ((below_drewNQ w2 _).mono HB2.out.size)))
  | (go_at_call 45;(with_reducible refine (HC1.out _ HW0.out).mono ?_);rintro e w3 ⟨rfl,n1,rfl⟩;have HW1:=hid (show Below w.heap.size w (w2.drewN (n0+n1)) from HB2.out.trans ((below_drewNQ w2 _).mono HB2.out.size)))
  | (go_at_call 46;(with_reducible refine (HC2.out _ HW1.out).mono ?_);rintro e w3 ⟨rfl,n2,rfl⟩;have HW2:=hid (show Below w.heap.size w (w2.drewN (n0+n1+n2)) from HB2.out.trans ((below_drewNQ w2 _).mono HB2.out.size)))
  | (go_at_call 46;(with_reducible refine (HC3.out _ HW2.out).mono ?_);rintro e w3 ⟨rfl,n3,rfl⟩;have HW3:=hid (show Below w.heap.size w (w2.drewN (n0+n1+n2+n3)) from HB2.out.trans ((below_drewNQ w2 _).mono HB2.out.size))))
 go_ret
 exact ⟨rfl,HW3.out⟩
set_option maxRecDepth 100000 in
set_option maxHeartbeats 4000000 in
theorem keqpo_5 (p q:Po) (pa pb pc pd qa qb qc qd:Option Addr) (nl no nc ns ml mo mc ms ca cb cc cd xa xb xc xd:Nat) (w:World) (hp:PoV (·<w.heap.size) w (.slice pa nl ca) (.slice pb no cb) (.slice pc nc cc) (.slice pd ns cd) p) (hq:PoV (·<w.heap.size) w (.slice qa ml xa) (.slice qb mo xb) (.slice qc mc xc) (.slice qd ms xd) q) (H0:Hid (decide (p.lv=q.lv)=true)) (H1:Hid (decide (p.od=q.od)=true)) (H2:Hid (decide (p.ch=q.ch)=true)) (H3:Hid (decide (p.st=q.st)=true)) (e0:(p.sens == q.sens)=true) (e1:(p.steps == q.steps)=false) :
  Calls Tryd.prog 16 #[.agg #[.slice pa nl ca,.slice pb no cb,.slice pc nc cc,.slice pd ns cd,.bool p.sens,.int .i64 p.steps,.int .i64 p.paths,.int .i64 p.nodes,.int .i64 p.conf],.agg #[.slice qa ml xa,.slice qb mo xb,.slice qc mc xc,.slice qd ms xd,.bool q.sens,.int .i64 q.steps,.int .i64 q.paths,.int .i64 q.nodes,.int .i64 q.conf]] w fun e w'=>e = .returned (.bool false)∧Below w.heap.size w w':=by
 have HP:=hid hp;have HQ:=hid hq
 clear hp hq
 have HC0:=hid (fun W (hW:Below w.heap.size w W)=>show Calls Tryd.prog 44 #[.slice pa nl ca,.slice qa ml xa] W (fun e w'=>e = .returned (.bool true)∧∃ n,W.drewN n=w') from by rw [← H0.out];exact ke_strs p.lv q.lv _ _ _ _ W (HP.out.1.below hW) (HQ.out.1.below hW))
 have HC1:=hid (fun W (hW:Below w.heap.size w W)=>show Calls Tryd.prog 45 #[.slice pb no cb,.slice qb mo xb] W (fun e w'=>e = .returned (.bool true)∧∃ n,W.drewN n=w') from by rw [← H1.out];exact ke_pairs p.od q.od _ _ _ _ W (HP.out.2.1.below hW) (HQ.out.2.1.below hW))
 have HC2:=hid (fun W (hW:Below w.heap.size w W)=>show Calls Tryd.prog 46 #[.slice pc nc cc,.slice qc mc xc] W (fun e w'=>e = .returned (.bool true)∧∃ n,W.drewN n=w') from by rw [← H2.out];exact ke_binds p.ch q.ch _ _ _ _ W (HP.out.2.2.1.below hW) (HQ.out.2.2.1.below hW))
 have HC3:=hid (fun W (hW:Below w.heap.size w W)=>show Calls Tryd.prog 46 #[.slice pd ns cd,.slice qd ms xd] W (fun e w'=>e = .returned (.bool true)∧∃ n,W.drewN n=w') from by rw [← H3.out];exact ke_binds p.st q.st _ _ _ _ W (HP.out.2.2.2.below hW) (HQ.out.2.2.2.below hW))
 go_enter Tryd.func16,Tryd.ntmps16
 go_upto_region 1 with fail
 obtain ⟨w2,hw2⟩:∃ W,(w.alloc (.cells #[.slice pa nl ca,.slice pb no cb,.slice pc nc cc,.slice pd ns cd,.bool p.sens,.int .i64 p.steps,.int .i64 p.paths,.int .i64 p.nodes,.int .i64 p.conf] 26)).alloc (.cells #[.slice qa ml xa,.slice qb mo xb,.slice qc mc xc,.slice qd ms xd,.bool q.sens,.int .i64 q.steps,.int .i64 q.paths,.int .i64 q.nodes,.int .i64 q.conf] 26)=W:=⟨_,rfl⟩
 have HB2:=hid (show Below w.heap.size w w2 from by rw [← hw2];exact ((Below.refl _ _).alloc (Nat.le_refl _) _).alloc (by rw [World.size_alloc];omega) _)
 have HX:=hid (show BxL 26 w.heap.size [.slice pa nl ca,.slice pb no cb,.slice pc nc cc,.slice pd ns cd,.bool p.sens,.int .i64 p.steps,.int .i64 p.paths,.int .i64 p.nodes,.int .i64 p.conf] w2 from by rw [← hw2];exact (BxL.new _ _ _).al _)
 have HY:=hid (show BxL 26 (w.heap.size+1) [.slice qa ml xa,.slice qb mo xb,.slice qc mc xc,.slice qd ms xd,.bool q.sens,.int .i64 q.steps,.int .i64 q.paths,.int .i64 q.nodes,.int .i64 q.conf] w2 from by rw [← hw2];have h9:=BxL.new 26 (w.alloc (.cells #[.slice pa nl ca,.slice pb no cb,.slice pc nc cc,.slice pd ns cd,.bool p.sens,.int .i64 p.steps,.int .i64 p.paths,.int .i64 p.nodes,.int .i64 p.conf] 26)) [.slice qa ml xa,.slice qb mo xb,.slice qc mc xc,.slice qd ms xd,.bool q.sens,.int .i64 q.steps,.int .i64 q.paths,.int .i64 q.nodes,.int .i64 q.conf];rw [World.size_alloc] at h9;exact h9)
 rw [hw2]
 clear hw2
 have xa0:∀ m,(w2.drewN m).cell? ⟨w.heap.size,0,none⟩=some (.slice pa nl ca):=fun m=>HX.out.at 0 rfl
 have xb0:w2.cell? ⟨w.heap.size,0,none⟩=some (.slice pa nl ca):=HX.out.at 0 rfl
 have xa1:∀ m,(w2.drewN m).cell? ⟨w.heap.size,1,none⟩=some (.slice pb no cb):=fun m=>HX.out.at 1 rfl
 have xb1:w2.cell? ⟨w.heap.size,1,none⟩=some (.slice pb no cb):=HX.out.at 1 rfl
 have xa2:∀ m,(w2.drewN m).cell? ⟨w.heap.size,2,none⟩=some (.slice pc nc cc):=fun m=>HX.out.at 2 rfl
 have xb2:w2.cell? ⟨w.heap.size,2,none⟩=some (.slice pc nc cc):=HX.out.at 2 rfl
 have xa3:∀ m,(w2.drewN m).cell? ⟨w.heap.size,3,none⟩=some (.slice pd ns cd):=fun m=>HX.out.at 3 rfl
 have xb3:w2.cell? ⟨w.heap.size,3,none⟩=some (.slice pd ns cd):=HX.out.at 3 rfl
 have xa4:∀ m,(w2.drewN m).cell? ⟨w.heap.size,4,none⟩=some (.bool p.sens):=fun m=>HX.out.at 4 rfl
 have xb4:w2.cell? ⟨w.heap.size,4,none⟩=some (.bool p.sens):=HX.out.at 4 rfl
 have xa5:∀ m,(w2.drewN m).cell? ⟨w.heap.size,5,none⟩=some (.int .i64 p.steps):=fun m=>HX.out.at 5 rfl
 have xb5:w2.cell? ⟨w.heap.size,5,none⟩=some (.int .i64 p.steps):=HX.out.at 5 rfl
 have xa6:∀ m,(w2.drewN m).cell? ⟨w.heap.size,6,none⟩=some (.int .i64 p.paths):=fun m=>HX.out.at 6 rfl
 have xb6:w2.cell? ⟨w.heap.size,6,none⟩=some (.int .i64 p.paths):=HX.out.at 6 rfl
 have xa7:∀ m,(w2.drewN m).cell? ⟨w.heap.size,7,none⟩=some (.int .i64 p.nodes):=fun m=>HX.out.at 7 rfl
 have xb7:w2.cell? ⟨w.heap.size,7,none⟩=some (.int .i64 p.nodes):=HX.out.at 7 rfl
 have xa8:∀ m,(w2.drewN m).cell? ⟨w.heap.size,8,none⟩=some (.int .i64 p.conf):=fun m=>HX.out.at 8 rfl
 have xb8:w2.cell? ⟨w.heap.size,8,none⟩=some (.int .i64 p.conf):=HX.out.at 8 rfl
 have ya0:∀ m,(w2.drewN m).cell? ⟨w.heap.size+1,0,none⟩=some (.slice qa ml xa):=fun m=>HY.out.at 0 rfl
 have yb0:w2.cell? ⟨w.heap.size+1,0,none⟩=some (.slice qa ml xa):=HY.out.at 0 rfl
 have ya1:∀ m,(w2.drewN m).cell? ⟨w.heap.size+1,1,none⟩=some (.slice qb mo xb):=fun m=>HY.out.at 1 rfl
 have yb1:w2.cell? ⟨w.heap.size+1,1,none⟩=some (.slice qb mo xb):=HY.out.at 1 rfl
 have ya2:∀ m,(w2.drewN m).cell? ⟨w.heap.size+1,2,none⟩=some (.slice qc mc xc):=fun m=>HY.out.at 2 rfl
 have yb2:w2.cell? ⟨w.heap.size+1,2,none⟩=some (.slice qc mc xc):=HY.out.at 2 rfl
 have ya3:∀ m,(w2.drewN m).cell? ⟨w.heap.size+1,3,none⟩=some (.slice qd ms xd):=fun m=>HY.out.at 3 rfl
 have yb3:w2.cell? ⟨w.heap.size+1,3,none⟩=some (.slice qd ms xd):=HY.out.at 3 rfl
 have ya4:∀ m,(w2.drewN m).cell? ⟨w.heap.size+1,4,none⟩=some (.bool q.sens):=fun m=>HY.out.at 4 rfl
 have yb4:w2.cell? ⟨w.heap.size+1,4,none⟩=some (.bool q.sens):=HY.out.at 4 rfl
 have ya5:∀ m,(w2.drewN m).cell? ⟨w.heap.size+1,5,none⟩=some (.int .i64 q.steps):=fun m=>HY.out.at 5 rfl
 have yb5:w2.cell? ⟨w.heap.size+1,5,none⟩=some (.int .i64 q.steps):=HY.out.at 5 rfl
 have ya6:∀ m,(w2.drewN m).cell? ⟨w.heap.size+1,6,none⟩=some (.int .i64 q.paths):=fun m=>HY.out.at 6 rfl
 have yb6:w2.cell? ⟨w.heap.size+1,6,none⟩=some (.int .i64 q.paths):=HY.out.at 6 rfl
 have ya7:∀ m,(w2.drewN m).cell? ⟨w.heap.size+1,7,none⟩=some (.int .i64 q.nodes):=fun m=>HY.out.at 7 rfl
 have yb7:w2.cell? ⟨w.heap.size+1,7,none⟩=some (.int .i64 q.nodes):=HY.out.at 7 rfl
 have ya8:∀ m,(w2.drewN m).cell? ⟨w.heap.size+1,8,none⟩=some (.int .i64 q.conf):=fun m=>HY.out.at 8 rfl
 have yb8:w2.cell? ⟨w.heap.size+1,8,none⟩=some (.int .i64 q.conf):=HY.out.at 8 rfl
 go_wp2_with (first
  | (go_at_call 44;(with_reducible refine (HC0.out _ HB2.out).mono ?_);rintro e w3 ⟨rfl,n0,rfl⟩;have HW0:=hid (show Below w.heap.size w (w2.drewN (n0)) from HB2.out.trans ((below_drewNQ w2 _).mono HB2.out.size)))
  | (go_at_call 45;(with_reducible refine (HC1.out _ HW0.out).mono ?_);rintro e w3 ⟨rfl,n1,rfl⟩;have HW1:=hid (show Below w.heap.size w (w2.drewN (n0+n1)) from HB2.out.trans ((below_drewNQ w2 _).mono HB2.out.size)))
  | (go_at_call 46;(with_reducible refine (HC2.out _ HW1.out).mono ?_);rintro e w3 ⟨rfl,n2,rfl⟩;have HW2:=hid (show Below w.heap.size w (w2.drewN (n0+n1+n2)) from HB2.out.trans ((below_drewNQ w2 _).mono HB2.out.size)))
  | (go_at_call 46;(with_reducible refine (HC3.out _ HW2.out).mono ?_);rintro e w3 ⟨rfl,n3,rfl⟩;have HW3:=hid (show Below w.heap.size w (w2.drewN (n0+n1+n2+n3)) from HB2.out.trans ((below_drewNQ w2 _).mono HB2.out.size))))
 go_ret
 exact ⟨rfl,HW3.out⟩
set_option maxRecDepth 100000 in
set_option maxHeartbeats 4000000 in
theorem keqpo_6 (p q:Po) (pa pb pc pd qa qb qc qd:Option Addr) (nl no nc ns ml mo mc ms ca cb cc cd xa xb xc xd:Nat) (w:World) (hp:PoV (·<w.heap.size) w (.slice pa nl ca) (.slice pb no cb) (.slice pc nc cc) (.slice pd ns cd) p) (hq:PoV (·<w.heap.size) w (.slice qa ml xa) (.slice qb mo xb) (.slice qc mc xc) (.slice qd ms xd) q) (H0:Hid (decide (p.lv=q.lv)=true)) (H1:Hid (decide (p.od=q.od)=true)) (H2:Hid (decide (p.ch=q.ch)=true)) (H3:Hid (decide (p.st=q.st)=true)) (e0:(p.sens == q.sens)=true) (e1:(p.steps == q.steps)=true) (e2:(p.paths == q.paths)=false) :
  Calls Tryd.prog 16 #[.agg #[.slice pa nl ca,.slice pb no cb,.slice pc nc cc,.slice pd ns cd,.bool p.sens,.int .i64 p.steps,.int .i64 p.paths,.int .i64 p.nodes,.int .i64 p.conf],.agg #[.slice qa ml xa,.slice qb mo xb,.slice qc mc xc,.slice qd ms xd,.bool q.sens,.int .i64 q.steps,.int .i64 q.paths,.int .i64 q.nodes,.int .i64 q.conf]] w fun e w'=>e = .returned (.bool false)∧Below w.heap.size w w':=by
 have HP:=hid hp;have HQ:=hid hq
 clear hp hq
 have HC0:=hid (fun W (hW:Below w.heap.size w W)=>show Calls Tryd.prog 44 #[.slice pa nl ca,.slice qa ml xa] W (fun e w'=>e = .returned (.bool true)∧∃ n,W.drewN n=w') from by rw [← H0.out];exact ke_strs p.lv q.lv _ _ _ _ W (HP.out.1.below hW) (HQ.out.1.below hW))
 have HC1:=hid (fun W (hW:Below w.heap.size w W)=>show Calls Tryd.prog 45 #[.slice pb no cb,.slice qb mo xb] W (fun e w'=>e = .returned (.bool true)∧∃ n,W.drewN n=w') from by rw [← H1.out];exact ke_pairs p.od q.od _ _ _ _ W (HP.out.2.1.below hW) (HQ.out.2.1.below hW))
 have HC2:=hid (fun W (hW:Below w.heap.size w W)=>show Calls Tryd.prog 46 #[.slice pc nc cc,.slice qc mc xc] W (fun e w'=>e = .returned (.bool true)∧∃ n,W.drewN n=w') from by rw [← H2.out];exact ke_binds p.ch q.ch _ _ _ _ W (HP.out.2.2.1.below hW) (HQ.out.2.2.1.below hW))
 have HC3:=hid (fun W (hW:Below w.heap.size w W)=>show Calls Tryd.prog 46 #[.slice pd ns cd,.slice qd ms xd] W (fun e w'=>e = .returned (.bool true)∧∃ n,W.drewN n=w') from by rw [← H3.out];exact ke_binds p.st q.st _ _ _ _ W (HP.out.2.2.2.below hW) (HQ.out.2.2.2.below hW))
 go_enter Tryd.func16,Tryd.ntmps16
 go_upto_region 1 with fail
 obtain ⟨w2,hw2⟩:∃ W,(w.alloc (.cells #[.slice pa nl ca,.slice pb no cb,.slice pc nc cc,.slice pd ns cd,.bool p.sens,.int .i64 p.steps,.int .i64 p.paths,.int .i64 p.nodes,.int .i64 p.conf] 26)).alloc (.cells #[.slice qa ml xa,.slice qb mo xb,.slice qc mc xc,.slice qd ms xd,.bool q.sens,.int .i64 q.steps,.int .i64 q.paths,.int .i64 q.nodes,.int .i64 q.conf] 26)=W:=⟨_,rfl⟩
 have HB2:=hid (show Below w.heap.size w w2 from by rw [← hw2];exact ((Below.refl _ _).alloc (Nat.le_refl _) _).alloc (by rw [World.size_alloc];omega) _)
 have HX:=hid (show BxL 26 w.heap.size [.slice pa nl ca,.slice pb no cb,.slice pc nc cc,.slice pd ns cd,.bool p.sens,.int .i64 p.steps,.int .i64 p.paths,.int .i64 p.nodes,.int .i64 p.conf] w2 from by rw [← hw2];exact (BxL.new _ _ _).al _)
 have HY:=hid (show BxL 26 (w.heap.size+1) [.slice qa ml xa,.slice qb mo xb,.slice qc mc xc,.slice qd ms xd,.bool q.sens,.int .i64 q.steps,.int .i64 q.paths,.int .i64 q.nodes,.int .i64 q.conf] w2 from by rw [← hw2];have h9:=BxL.new 26 (w.alloc (.cells #[.slice pa nl ca,.slice pb no cb,.slice pc nc cc,.slice pd ns cd,.bool p.sens,.int .i64 p.steps,.int .i64 p.paths,.int .i64 p.nodes,.int .i64 p.conf] 26)) [.slice qa ml xa,.slice qb mo xb,.slice qc mc xc,.slice qd ms xd,.bool q.sens,.int .i64 q.steps,.int .i64 q.paths,.int .i64 q.nodes,.int .i64 q.conf];rw [World.size_alloc] at h9;exact h9)
 rw [hw2]
 clear hw2
 have xa0:∀ m,(w2.drewN m).cell? ⟨w.heap.size,0,none⟩=some (.slice pa nl ca):=fun m=>HX.out.at 0 rfl
 have xb0:w2.cell? ⟨w.heap.size,0,none⟩=some (.slice pa nl ca):=HX.out.at 0 rfl
 have xa1:∀ m,(w2.drewN m).cell? ⟨w.heap.size,1,none⟩=some (.slice pb no cb):=fun m=>HX.out.at 1 rfl
 have xb1:w2.cell? ⟨w.heap.size,1,none⟩=some (.slice pb no cb):=HX.out.at 1 rfl
 have xa2:∀ m,(w2.drewN m).cell? ⟨w.heap.size,2,none⟩=some (.slice pc nc cc):=fun m=>HX.out.at 2 rfl
 have xb2:w2.cell? ⟨w.heap.size,2,none⟩=some (.slice pc nc cc):=HX.out.at 2 rfl
 have xa3:∀ m,(w2.drewN m).cell? ⟨w.heap.size,3,none⟩=some (.slice pd ns cd):=fun m=>HX.out.at 3 rfl
 have xb3:w2.cell? ⟨w.heap.size,3,none⟩=some (.slice pd ns cd):=HX.out.at 3 rfl
 have xa4:∀ m,(w2.drewN m).cell? ⟨w.heap.size,4,none⟩=some (.bool p.sens):=fun m=>HX.out.at 4 rfl
 have xb4:w2.cell? ⟨w.heap.size,4,none⟩=some (.bool p.sens):=HX.out.at 4 rfl
 have xa5:∀ m,(w2.drewN m).cell? ⟨w.heap.size,5,none⟩=some (.int .i64 p.steps):=fun m=>HX.out.at 5 rfl
 have xb5:w2.cell? ⟨w.heap.size,5,none⟩=some (.int .i64 p.steps):=HX.out.at 5 rfl
 have xa6:∀ m,(w2.drewN m).cell? ⟨w.heap.size,6,none⟩=some (.int .i64 p.paths):=fun m=>HX.out.at 6 rfl
 have xb6:w2.cell? ⟨w.heap.size,6,none⟩=some (.int .i64 p.paths):=HX.out.at 6 rfl
 have xa7:∀ m,(w2.drewN m).cell? ⟨w.heap.size,7,none⟩=some (.int .i64 p.nodes):=fun m=>HX.out.at 7 rfl
 have xb7:w2.cell? ⟨w.heap.size,7,none⟩=some (.int .i64 p.nodes):=HX.out.at 7 rfl
 have xa8:∀ m,(w2.drewN m).cell? ⟨w.heap.size,8,none⟩=some (.int .i64 p.conf):=fun m=>HX.out.at 8 rfl
 have xb8:w2.cell? ⟨w.heap.size,8,none⟩=some (.int .i64 p.conf):=HX.out.at 8 rfl
 have ya0:∀ m,(w2.drewN m).cell? ⟨w.heap.size+1,0,none⟩=some (.slice qa ml xa):=fun m=>HY.out.at 0 rfl
 have yb0:w2.cell? ⟨w.heap.size+1,0,none⟩=some (.slice qa ml xa):=HY.out.at 0 rfl
 have ya1:∀ m,(w2.drewN m).cell? ⟨w.heap.size+1,1,none⟩=some (.slice qb mo xb):=fun m=>HY.out.at 1 rfl
 have yb1:w2.cell? ⟨w.heap.size+1,1,none⟩=some (.slice qb mo xb):=HY.out.at 1 rfl
 have ya2:∀ m,(w2.drewN m).cell? ⟨w.heap.size+1,2,none⟩=some (.slice qc mc xc):=fun m=>HY.out.at 2 rfl
 have yb2:w2.cell? ⟨w.heap.size+1,2,none⟩=some (.slice qc mc xc):=HY.out.at 2 rfl
 have ya3:∀ m,(w2.drewN m).cell? ⟨w.heap.size+1,3,none⟩=some (.slice qd ms xd):=fun m=>HY.out.at 3 rfl
 have yb3:w2.cell? ⟨w.heap.size+1,3,none⟩=some (.slice qd ms xd):=HY.out.at 3 rfl
 have ya4:∀ m,(w2.drewN m).cell? ⟨w.heap.size+1,4,none⟩=some (.bool q.sens):=fun m=>HY.out.at 4 rfl
 have yb4:w2.cell? ⟨w.heap.size+1,4,none⟩=some (.bool q.sens):=HY.out.at 4 rfl
 have ya5:∀ m,(w2.drewN m).cell? ⟨w.heap.size+1,5,none⟩=some (.int .i64 q.steps):=fun m=>HY.out.at 5 rfl
 have yb5:w2.cell? ⟨w.heap.size+1,5,none⟩=some (.int .i64 q.steps):=HY.out.at 5 rfl
 have ya6:∀ m,(w2.drewN m).cell? ⟨w.heap.size+1,6,none⟩=some (.int .i64 q.paths):=fun m=>HY.out.at 6 rfl
 have yb6:w2.cell? ⟨w.heap.size+1,6,none⟩=some (.int .i64 q.paths):=HY.out.at 6 rfl
 have ya7:∀ m,(w2.drewN m).cell? ⟨w.heap.size+1,7,none⟩=some (.int .i64 q.nodes):=fun m=>HY.out.at 7 rfl
 have yb7:w2.cell? ⟨w.heap.size+1,7,none⟩=some (.int .i64 q.nodes):=HY.out.at 7 rfl
 have ya8:∀ m,(w2.drewN m).cell? ⟨w.heap.size+1,8,none⟩=some (.int .i64 q.conf):=fun m=>HY.out.at 8 rfl
 have yb8:w2.cell? ⟨w.heap.size+1,8,none⟩=some (.int .i64 q.conf):=HY.out.at 8 rfl
 go_wp2_with (first
  | (go_at_call 44;(with_reducible refine (HC0.out _ HB2.out).mono ?_);rintro e w3 ⟨rfl,n0,rfl⟩;have HW0:=hid (show Below w.heap.size w (w2.drewN (n0)) from HB2.out.trans ((below_drewNQ w2 _).mono HB2.out.size)))
  | (go_at_call 45;(with_reducible refine (HC1.out _ HW0.out).mono ?_);rintro e w3 ⟨rfl,n1,rfl⟩;have HW1:=hid (show Below w.heap.size w (w2.drewN (n0+n1)) from HB2.out.trans ((below_drewNQ w2 _).mono HB2.out.size)))
  | (go_at_call 46;(with_reducible refine (HC2.out _ HW1.out).mono ?_);rintro e w3 ⟨rfl,n2,rfl⟩;have HW2:=hid (show Below w.heap.size w (w2.drewN (n0+n1+n2)) from HB2.out.trans ((below_drewNQ w2 _).mono HB2.out.size)))
  | (go_at_call 46;(with_reducible refine (HC3.out _ HW2.out).mono ?_);rintro e w3 ⟨rfl,n3,rfl⟩;have HW3:=hid (show Below w.heap.size w (w2.drewN (n0+n1+n2+n3)) from HB2.out.trans ((below_drewNQ w2 _).mono HB2.out.size))))
 go_ret
 exact ⟨rfl,HW3.out⟩
set_option maxRecDepth 100000 in
set_option maxHeartbeats 4000000 in
theorem keqpo_7 (p q:Po) (pa pb pc pd qa qb qc qd:Option Addr) (nl no nc ns ml mo mc ms ca cb cc cd xa xb xc xd:Nat) (w:World) (hp:PoV (·<w.heap.size) w (.slice pa nl ca) (.slice pb no cb) (.slice pc nc cc) (.slice pd ns cd) p) (hq:PoV (·<w.heap.size) w (.slice qa ml xa) (.slice qb mo xb) (.slice qc mc xc) (.slice qd ms xd) q) (H0:Hid (decide (p.lv=q.lv)=true)) (H1:Hid (decide (p.od=q.od)=true)) (H2:Hid (decide (p.ch=q.ch)=true)) (H3:Hid (decide (p.st=q.st)=true)) (e0:(p.sens == q.sens)=true) (e1:(p.steps == q.steps)=true) (e2:(p.paths == q.paths)=true) (e3:(p.nodes == q.nodes)=false) :
  Calls Tryd.prog 16 #[.agg #[.slice pa nl ca,.slice pb no cb,.slice pc nc cc,.slice pd ns cd,.bool p.sens,.int .i64 p.steps,.int .i64 p.paths,.int .i64 p.nodes,.int .i64 p.conf],.agg #[.slice qa ml xa,.slice qb mo xb,.slice qc mc xc,.slice qd ms xd,.bool q.sens,.int .i64 q.steps,.int .i64 q.paths,.int .i64 q.nodes,.int .i64 q.conf]] w fun e w'=>e = .returned (.bool false)∧Below w.heap.size w w':=by
 have HP:=hid hp;have HQ:=hid hq
 clear hp hq
 have HC0:=hid (fun W (hW:Below w.heap.size w W)=>show Calls Tryd.prog 44 #[.slice pa nl ca,.slice qa ml xa] W (fun e w'=>e = .returned (.bool true)∧∃ n,W.drewN n=w') from by rw [← H0.out];exact ke_strs p.lv q.lv _ _ _ _ W (HP.out.1.below hW) (HQ.out.1.below hW))
 have HC1:=hid (fun W (hW:Below w.heap.size w W)=>show Calls Tryd.prog 45 #[.slice pb no cb,.slice qb mo xb] W (fun e w'=>e = .returned (.bool true)∧∃ n,W.drewN n=w') from by rw [← H1.out];exact ke_pairs p.od q.od _ _ _ _ W (HP.out.2.1.below hW) (HQ.out.2.1.below hW))
 have HC2:=hid (fun W (hW:Below w.heap.size w W)=>show Calls Tryd.prog 46 #[.slice pc nc cc,.slice qc mc xc] W (fun e w'=>e = .returned (.bool true)∧∃ n,W.drewN n=w') from by rw [← H2.out];exact ke_binds p.ch q.ch _ _ _ _ W (HP.out.2.2.1.below hW) (HQ.out.2.2.1.below hW))
 have HC3:=hid (fun W (hW:Below w.heap.size w W)=>show Calls Tryd.prog 46 #[.slice pd ns cd,.slice qd ms xd] W (fun e w'=>e = .returned (.bool true)∧∃ n,W.drewN n=w') from by rw [← H3.out];exact ke_binds p.st q.st _ _ _ _ W (HP.out.2.2.2.below hW) (HQ.out.2.2.2.below hW))
 go_enter Tryd.func16,Tryd.ntmps16
 go_upto_region 1 with fail
 obtain ⟨w2,hw2⟩:∃ W,(w.alloc (.cells #[.slice pa nl ca,.slice pb no cb,.slice pc nc cc,.slice pd ns cd,.bool p.sens,.int .i64 p.steps,.int .i64 p.paths,.int .i64 p.nodes,.int .i64 p.conf] 26)).alloc (.cells #[.slice qa ml xa,.slice qb mo xb,.slice qc mc xc,.slice qd ms xd,.bool q.sens,.int .i64 q.steps,.int .i64 q.paths,.int .i64 q.nodes,.int .i64 q.conf] 26)=W:=⟨_,rfl⟩
 have HB2:=hid (show Below w.heap.size w w2 from by rw [← hw2];exact ((Below.refl _ _).alloc (Nat.le_refl _) _).alloc (by rw [World.size_alloc];omega) _)
 have HX:=hid (show BxL 26 w.heap.size [.slice pa nl ca,.slice pb no cb,.slice pc nc cc,.slice pd ns cd,.bool p.sens,.int .i64 p.steps,.int .i64 p.paths,.int .i64 p.nodes,.int .i64 p.conf] w2 from by rw [← hw2];exact (BxL.new _ _ _).al _)
 have HY:=hid (show BxL 26 (w.heap.size+1) [.slice qa ml xa,.slice qb mo xb,.slice qc mc xc,.slice qd ms xd,.bool q.sens,.int .i64 q.steps,.int .i64 q.paths,.int .i64 q.nodes,.int .i64 q.conf] w2 from by rw [← hw2];have h9:=BxL.new 26 (w.alloc (.cells #[.slice pa nl ca,.slice pb no cb,.slice pc nc cc,.slice pd ns cd,.bool p.sens,.int .i64 p.steps,.int .i64 p.paths,.int .i64 p.nodes,.int .i64 p.conf] 26)) [.slice qa ml xa,.slice qb mo xb,.slice qc mc xc,.slice qd ms xd,.bool q.sens,.int .i64 q.steps,.int .i64 q.paths,.int .i64 q.nodes,.int .i64 q.conf];rw [World.size_alloc] at h9;exact h9)
 rw [hw2]
 clear hw2
 have xa0:∀ m,(w2.drewN m).cell? ⟨w.heap.size,0,none⟩=some (.slice pa nl ca):=fun m=>HX.out.at 0 rfl
 have xb0:w2.cell? ⟨w.heap.size,0,none⟩=some (.slice pa nl ca):=HX.out.at 0 rfl
 have xa1:∀ m,(w2.drewN m).cell? ⟨w.heap.size,1,none⟩=some (.slice pb no cb):=fun m=>HX.out.at 1 rfl
 have xb1:w2.cell? ⟨w.heap.size,1,none⟩=some (.slice pb no cb):=HX.out.at 1 rfl
 have xa2:∀ m,(w2.drewN m).cell? ⟨w.heap.size,2,none⟩=some (.slice pc nc cc):=fun m=>HX.out.at 2 rfl
 have xb2:w2.cell? ⟨w.heap.size,2,none⟩=some (.slice pc nc cc):=HX.out.at 2 rfl
 have xa3:∀ m,(w2.drewN m).cell? ⟨w.heap.size,3,none⟩=some (.slice pd ns cd):=fun m=>HX.out.at 3 rfl
 have xb3:w2.cell? ⟨w.heap.size,3,none⟩=some (.slice pd ns cd):=HX.out.at 3 rfl
 have xa4:∀ m,(w2.drewN m).cell? ⟨w.heap.size,4,none⟩=some (.bool p.sens):=fun m=>HX.out.at 4 rfl
 have xb4:w2.cell? ⟨w.heap.size,4,none⟩=some (.bool p.sens):=HX.out.at 4 rfl
 have xa5:∀ m,(w2.drewN m).cell? ⟨w.heap.size,5,none⟩=some (.int .i64 p.steps):=fun m=>HX.out.at 5 rfl
 have xb5:w2.cell? ⟨w.heap.size,5,none⟩=some (.int .i64 p.steps):=HX.out.at 5 rfl
 have xa6:∀ m,(w2.drewN m).cell? ⟨w.heap.size,6,none⟩=some (.int .i64 p.paths):=fun m=>HX.out.at 6 rfl
 have xb6:w2.cell? ⟨w.heap.size,6,none⟩=some (.int .i64 p.paths):=HX.out.at 6 rfl
 have xa7:∀ m,(w2.drewN m).cell? ⟨w.heap.size,7,none⟩=some (.int .i64 p.nodes):=fun m=>HX.out.at 7 rfl
 have xb7:w2.cell? ⟨w.heap.size,7,none⟩=some (.int .i64 p.nodes):=HX.out.at 7 rfl
 have xa8:∀ m,(w2.drewN m).cell? ⟨w.heap.size,8,none⟩=some (.int .i64 p.conf):=fun m=>HX.out.at 8 rfl
 have xb8:w2.cell? ⟨w.heap.size,8,none⟩=some (.int .i64 p.conf):=HX.out.at 8 rfl
 have ya0:∀ m,(w2.drewN m).cell? ⟨w.heap.size+1,0,none⟩=some (.slice qa ml xa):=fun m=>HY.out.at 0 rfl
 have yb0:w2.cell? ⟨w.heap.size+1,0,none⟩=some (.slice qa ml xa):=HY.out.at 0 rfl
 have ya1:∀ m,(w2.drewN m).cell? ⟨w.heap.size+1,1,none⟩=some (.slice qb mo xb):=fun m=>HY.out.at 1 rfl
 have yb1:w2.cell? ⟨w.heap.size+1,1,none⟩=some (.slice qb mo xb):=HY.out.at 1 rfl
 have ya2:∀ m,(w2.drewN m).cell? ⟨w.heap.size+1,2,none⟩=some (.slice qc mc xc):=fun m=>HY.out.at 2 rfl
 have yb2:w2.cell? ⟨w.heap.size+1,2,none⟩=some (.slice qc mc xc):=HY.out.at 2 rfl
 have ya3:∀ m,(w2.drewN m).cell? ⟨w.heap.size+1,3,none⟩=some (.slice qd ms xd):=fun m=>HY.out.at 3 rfl
 have yb3:w2.cell? ⟨w.heap.size+1,3,none⟩=some (.slice qd ms xd):=HY.out.at 3 rfl
 have ya4:∀ m,(w2.drewN m).cell? ⟨w.heap.size+1,4,none⟩=some (.bool q.sens):=fun m=>HY.out.at 4 rfl
 have yb4:w2.cell? ⟨w.heap.size+1,4,none⟩=some (.bool q.sens):=HY.out.at 4 rfl
 have ya5:∀ m,(w2.drewN m).cell? ⟨w.heap.size+1,5,none⟩=some (.int .i64 q.steps):=fun m=>HY.out.at 5 rfl
 have yb5:w2.cell? ⟨w.heap.size+1,5,none⟩=some (.int .i64 q.steps):=HY.out.at 5 rfl
 have ya6:∀ m,(w2.drewN m).cell? ⟨w.heap.size+1,6,none⟩=some (.int .i64 q.paths):=fun m=>HY.out.at 6 rfl
 have yb6:w2.cell? ⟨w.heap.size+1,6,none⟩=some (.int .i64 q.paths):=HY.out.at 6 rfl
 have ya7:∀ m,(w2.drewN m).cell? ⟨w.heap.size+1,7,none⟩=some (.int .i64 q.nodes):=fun m=>HY.out.at 7 rfl
 have yb7:w2.cell? ⟨w.heap.size+1,7,none⟩=some (.int .i64 q.nodes):=HY.out.at 7 rfl
 have ya8:∀ m,(w2.drewN m).cell? ⟨w.heap.size+1,8,none⟩=some (.int .i64 q.conf):=fun m=>HY.out.at 8 rfl
 have yb8:w2.cell? ⟨w.heap.size+1,8,none⟩=some (.int .i64 q.conf):=HY.out.at 8 rfl
 go_wp2_with (first
  | (go_at_call 44;(with_reducible refine (HC0.out _ HB2.out).mono ?_);rintro e w3 ⟨rfl,n0,rfl⟩;have HW0:=hid (show Below w.heap.size w (w2.drewN (n0)) from HB2.out.trans ((below_drewNQ w2 _).mono HB2.out.size)))
  | (go_at_call 45;(with_reducible refine (HC1.out _ HW0.out).mono ?_);rintro e w3 ⟨rfl,n1,rfl⟩;have HW1:=hid (show Below w.heap.size w (w2.drewN (n0+n1)) from HB2.out.trans ((below_drewNQ w2 _).mono HB2.out.size)))
  | (go_at_call 46;(with_reducible refine (HC2.out _ HW1.out).mono ?_);rintro e w3 ⟨rfl,n2,rfl⟩;have HW2:=hid (show Below w.heap.size w (w2.drewN (n0+n1+n2)) from HB2.out.trans ((below_drewNQ w2 _).mono HB2.out.size)))
  | (go_at_call 46;(with_reducible refine (HC3.out _ HW2.out).mono ?_);rintro e w3 ⟨rfl,n3,rfl⟩;have HW3:=hid (show Below w.heap.size w (w2.drewN (n0+n1+n2+n3)) from HB2.out.trans ((below_drewNQ w2 _).mono HB2.out.size))))
 go_ret
 exact ⟨rfl,HW3.out⟩
set_option maxRecDepth 100000 in
set_option maxHeartbeats 4000000 in
theorem keqpo_8 (p q:Po) (pa pb pc pd qa qb qc qd:Option Addr) (nl no nc ns ml mo mc ms ca cb cc cd xa xb xc xd:Nat) (w:World) (hp:PoV (·<w.heap.size) w (.slice pa nl ca) (.slice pb no cb) (.slice pc nc cc) (.slice pd ns cd) p) (hq:PoV (·<w.heap.size) w (.slice qa ml xa) (.slice qb mo xb) (.slice qc mc xc) (.slice qd ms xd) q) (H0:Hid (decide (p.lv=q.lv)=true)) (H1:Hid (decide (p.od=q.od)=true)) (H2:Hid (decide (p.ch=q.ch)=true)) (H3:Hid (decide (p.st=q.st)=true)) (e0:(p.sens == q.sens)=true) (e1:(p.steps == q.steps)=true) (e2:(p.paths == q.paths)=true) (e3:(p.nodes == q.nodes)=true) (e4:(p.conf == q.conf)=false) :
  Calls Tryd.prog 16 #[.agg #[.slice pa nl ca,.slice pb no cb,.slice pc nc cc,.slice pd ns cd,.bool p.sens,.int .i64 p.steps,.int .i64 p.paths,.int .i64 p.nodes,.int .i64 p.conf],.agg #[.slice qa ml xa,.slice qb mo xb,.slice qc mc xc,.slice qd ms xd,.bool q.sens,.int .i64 q.steps,.int .i64 q.paths,.int .i64 q.nodes,.int .i64 q.conf]] w fun e w'=>e = .returned (.bool false)∧Below w.heap.size w w':=by
 have HP:=hid hp;have HQ:=hid hq
 clear hp hq
 have HC0:=hid (fun W (hW:Below w.heap.size w W)=>show Calls Tryd.prog 44 #[.slice pa nl ca,.slice qa ml xa] W (fun e w'=>e = .returned (.bool true)∧∃ n,W.drewN n=w') from by rw [← H0.out];exact ke_strs p.lv q.lv _ _ _ _ W (HP.out.1.below hW) (HQ.out.1.below hW))
 have HC1:=hid (fun W (hW:Below w.heap.size w W)=>show Calls Tryd.prog 45 #[.slice pb no cb,.slice qb mo xb] W (fun e w'=>e = .returned (.bool true)∧∃ n,W.drewN n=w') from by rw [← H1.out];exact ke_pairs p.od q.od _ _ _ _ W (HP.out.2.1.below hW) (HQ.out.2.1.below hW))
 have HC2:=hid (fun W (hW:Below w.heap.size w W)=>show Calls Tryd.prog 46 #[.slice pc nc cc,.slice qc mc xc] W (fun e w'=>e = .returned (.bool true)∧∃ n,W.drewN n=w') from by rw [← H2.out];exact ke_binds p.ch q.ch _ _ _ _ W (HP.out.2.2.1.below hW) (HQ.out.2.2.1.below hW))
 have HC3:=hid (fun W (hW:Below w.heap.size w W)=>show Calls Tryd.prog 46 #[.slice pd ns cd,.slice qd ms xd] W (fun e w'=>e = .returned (.bool true)∧∃ n,W.drewN n=w') from by rw [← H3.out];exact ke_binds p.st q.st _ _ _ _ W (HP.out.2.2.2.below hW) (HQ.out.2.2.2.below hW))
 go_enter Tryd.func16,Tryd.ntmps16
 go_upto_region 1 with fail
 obtain ⟨w2,hw2⟩:∃ W,(w.alloc (.cells #[.slice pa nl ca,.slice pb no cb,.slice pc nc cc,.slice pd ns cd,.bool p.sens,.int .i64 p.steps,.int .i64 p.paths,.int .i64 p.nodes,.int .i64 p.conf] 26)).alloc (.cells #[.slice qa ml xa,.slice qb mo xb,.slice qc mc xc,.slice qd ms xd,.bool q.sens,.int .i64 q.steps,.int .i64 q.paths,.int .i64 q.nodes,.int .i64 q.conf] 26)=W:=⟨_,rfl⟩
 have HB2:=hid (show Below w.heap.size w w2 from by rw [← hw2];exact ((Below.refl _ _).alloc (Nat.le_refl _) _).alloc (by rw [World.size_alloc];omega) _)
 have HX:=hid (show BxL 26 w.heap.size [.slice pa nl ca,.slice pb no cb,.slice pc nc cc,.slice pd ns cd,.bool p.sens,.int .i64 p.steps,.int .i64 p.paths,.int .i64 p.nodes,.int .i64 p.conf] w2 from by rw [← hw2];exact (BxL.new _ _ _).al _)
 have HY:=hid (show BxL 26 (w.heap.size+1) [.slice qa ml xa,.slice qb mo xb,.slice qc mc xc,.slice qd ms xd,.bool q.sens,.int .i64 q.steps,.int .i64 q.paths,.int .i64 q.nodes,.int .i64 q.conf] w2 from by rw [← hw2];have h9:=BxL.new 26 (w.alloc (.cells #[.slice pa nl ca,.slice pb no cb,.slice pc nc cc,.slice pd ns cd,.bool p.sens,.int .i64 p.steps,.int .i64 p.paths,.int .i64 p.nodes,.int .i64 p.conf] 26)) [.slice qa ml xa,.slice qb mo xb,.slice qc mc xc,.slice qd ms xd,.bool q.sens,.int .i64 q.steps,.int .i64 q.paths,.int .i64 q.nodes,.int .i64 q.conf];rw [World.size_alloc] at h9;exact h9)
 rw [hw2]
 clear hw2
 have xa0:∀ m,(w2.drewN m).cell? ⟨w.heap.size,0,none⟩=some (.slice pa nl ca):=fun m=>HX.out.at 0 rfl
 have xb0:w2.cell? ⟨w.heap.size,0,none⟩=some (.slice pa nl ca):=HX.out.at 0 rfl
 have xa1:∀ m,(w2.drewN m).cell? ⟨w.heap.size,1,none⟩=some (.slice pb no cb):=fun m=>HX.out.at 1 rfl
 have xb1:w2.cell? ⟨w.heap.size,1,none⟩=some (.slice pb no cb):=HX.out.at 1 rfl
 have xa2:∀ m,(w2.drewN m).cell? ⟨w.heap.size,2,none⟩=some (.slice pc nc cc):=fun m=>HX.out.at 2 rfl
 have xb2:w2.cell? ⟨w.heap.size,2,none⟩=some (.slice pc nc cc):=HX.out.at 2 rfl
 have xa3:∀ m,(w2.drewN m).cell? ⟨w.heap.size,3,none⟩=some (.slice pd ns cd):=fun m=>HX.out.at 3 rfl
 have xb3:w2.cell? ⟨w.heap.size,3,none⟩=some (.slice pd ns cd):=HX.out.at 3 rfl
 have xa4:∀ m,(w2.drewN m).cell? ⟨w.heap.size,4,none⟩=some (.bool p.sens):=fun m=>HX.out.at 4 rfl
 have xb4:w2.cell? ⟨w.heap.size,4,none⟩=some (.bool p.sens):=HX.out.at 4 rfl
 have xa5:∀ m,(w2.drewN m).cell? ⟨w.heap.size,5,none⟩=some (.int .i64 p.steps):=fun m=>HX.out.at 5 rfl
 have xb5:w2.cell? ⟨w.heap.size,5,none⟩=some (.int .i64 p.steps):=HX.out.at 5 rfl
 have xa6:∀ m,(w2.drewN m).cell? ⟨w.heap.size,6,none⟩=some (.int .i64 p.paths):=fun m=>HX.out.at 6 rfl
 have xb6:w2.cell? ⟨w.heap.size,6,none⟩=some (.int .i64 p.paths):=HX.out.at 6 rfl
 have xa7:∀ m,(w2.drewN m).cell? ⟨w.heap.size,7,none⟩=some (.int .i64 p.nodes):=fun m=>HX.out.at 7 rfl
 have xb7:w2.cell? ⟨w.heap.size,7,none⟩=some (.int .i64 p.nodes):=HX.out.at 7 rfl
 have xa8:∀ m,(w2.drewN m).cell? ⟨w.heap.size,8,none⟩=some (.int .i64 p.conf):=fun m=>HX.out.at 8 rfl
 have xb8:w2.cell? ⟨w.heap.size,8,none⟩=some (.int .i64 p.conf):=HX.out.at 8 rfl
 have ya0:∀ m,(w2.drewN m).cell? ⟨w.heap.size+1,0,none⟩=some (.slice qa ml xa):=fun m=>HY.out.at 0 rfl
 have yb0:w2.cell? ⟨w.heap.size+1,0,none⟩=some (.slice qa ml xa):=HY.out.at 0 rfl
 have ya1:∀ m,(w2.drewN m).cell? ⟨w.heap.size+1,1,none⟩=some (.slice qb mo xb):=fun m=>HY.out.at 1 rfl
 have yb1:w2.cell? ⟨w.heap.size+1,1,none⟩=some (.slice qb mo xb):=HY.out.at 1 rfl
 have ya2:∀ m,(w2.drewN m).cell? ⟨w.heap.size+1,2,none⟩=some (.slice qc mc xc):=fun m=>HY.out.at 2 rfl
 have yb2:w2.cell? ⟨w.heap.size+1,2,none⟩=some (.slice qc mc xc):=HY.out.at 2 rfl
 have ya3:∀ m,(w2.drewN m).cell? ⟨w.heap.size+1,3,none⟩=some (.slice qd ms xd):=fun m=>HY.out.at 3 rfl
 have yb3:w2.cell? ⟨w.heap.size+1,3,none⟩=some (.slice qd ms xd):=HY.out.at 3 rfl
 have ya4:∀ m,(w2.drewN m).cell? ⟨w.heap.size+1,4,none⟩=some (.bool q.sens):=fun m=>HY.out.at 4 rfl
 have yb4:w2.cell? ⟨w.heap.size+1,4,none⟩=some (.bool q.sens):=HY.out.at 4 rfl
 have ya5:∀ m,(w2.drewN m).cell? ⟨w.heap.size+1,5,none⟩=some (.int .i64 q.steps):=fun m=>HY.out.at 5 rfl
 have yb5:w2.cell? ⟨w.heap.size+1,5,none⟩=some (.int .i64 q.steps):=HY.out.at 5 rfl
 have ya6:∀ m,(w2.drewN m).cell? ⟨w.heap.size+1,6,none⟩=some (.int .i64 q.paths):=fun m=>HY.out.at 6 rfl
 have yb6:w2.cell? ⟨w.heap.size+1,6,none⟩=some (.int .i64 q.paths):=HY.out.at 6 rfl
 have ya7:∀ m,(w2.drewN m).cell? ⟨w.heap.size+1,7,none⟩=some (.int .i64 q.nodes):=fun m=>HY.out.at 7 rfl
 have yb7:w2.cell? ⟨w.heap.size+1,7,none⟩=some (.int .i64 q.nodes):=HY.out.at 7 rfl
 have ya8:∀ m,(w2.drewN m).cell? ⟨w.heap.size+1,8,none⟩=some (.int .i64 q.conf):=fun m=>HY.out.at 8 rfl
 have yb8:w2.cell? ⟨w.heap.size+1,8,none⟩=some (.int .i64 q.conf):=HY.out.at 8 rfl
 go_wp2_with (first
  | (go_at_call 44;(with_reducible refine (HC0.out _ HB2.out).mono ?_);rintro e w3 ⟨rfl,n0,rfl⟩;have HW0:=hid (show Below w.heap.size w (w2.drewN (n0)) from HB2.out.trans ((below_drewNQ w2 _).mono HB2.out.size)))
  | (go_at_call 45;(with_reducible refine (HC1.out _ HW0.out).mono ?_);rintro e w3 ⟨rfl,n1,rfl⟩;have HW1:=hid (show Below w.heap.size w (w2.drewN (n0+n1)) from HB2.out.trans ((below_drewNQ w2 _).mono HB2.out.size)))
  | (go_at_call 46;(with_reducible refine (HC2.out _ HW1.out).mono ?_);rintro e w3 ⟨rfl,n2,rfl⟩;have HW2:=hid (show Below w.heap.size w (w2.drewN (n0+n1+n2)) from HB2.out.trans ((below_drewNQ w2 _).mono HB2.out.size)))
  | (go_at_call 46;(with_reducible refine (HC3.out _ HW2.out).mono ?_);rintro e w3 ⟨rfl,n3,rfl⟩;have HW3:=hid (show Below w.heap.size w (w2.drewN (n0+n1+n2+n3)) from HB2.out.trans ((below_drewNQ w2 _).mono HB2.out.size))))
 go_ret
 exact ⟨rfl,HW3.out⟩
set_option maxRecDepth 100000 in
set_option maxHeartbeats 4000000 in
theorem keqpo_9 (p q:Po) (pa pb pc pd qa qb qc qd:Option Addr) (nl no nc ns ml mo mc ms ca cb cc cd xa xb xc xd:Nat) (w:World) (hp:PoV (·<w.heap.size) w (.slice pa nl ca) (.slice pb no cb) (.slice pc nc cc) (.slice pd ns cd) p) (hq:PoV (·<w.heap.size) w (.slice qa ml xa) (.slice qb mo xb) (.slice qc mc xc) (.slice qd ms xd) q) (H0:Hid (decide (p.lv=q.lv)=true)) (H1:Hid (decide (p.od=q.od)=true)) (H2:Hid (decide (p.ch=q.ch)=true)) (H3:Hid (decide (p.st=q.st)=true)) (e0:(p.sens == q.sens)=true) (e1:(p.steps == q.steps)=true) (e2:(p.paths == q.paths)=true) (e3:(p.nodes == q.nodes)=true) (e4:(p.conf == q.conf)=true) :
  Calls Tryd.prog 16 #[.agg #[.slice pa nl ca,.slice pb no cb,.slice pc nc cc,.slice pd ns cd,.bool p.sens,.int .i64 p.steps,.int .i64 p.paths,.int .i64 p.nodes,.int .i64 p.conf],.agg #[.slice qa ml xa,.slice qb mo xb,.slice qc mc xc,.slice qd ms xd,.bool q.sens,.int .i64 q.steps,.int .i64 q.paths,.int .i64 q.nodes,.int .i64 q.conf]] w fun e w'=>e = .returned (.bool true)∧Below w.heap.size w w':=by
 have HP:=hid hp;have HQ:=hid hq
 clear hp hq
 have HC0:=hid (fun W (hW:Below w.heap.size w W)=>show Calls Tryd.prog 44 #[.slice pa nl ca,.slice qa ml xa] W (fun e w'=>e = .returned (.bool true)∧∃ n,W.drewN n=w') from by rw [← H0.out];exact ke_strs p.lv q.lv _ _ _ _ W (HP.out.1.below hW) (HQ.out.1.below hW))
 have HC1:=hid (fun W (hW:Below w.heap.size w W)=>show Calls Tryd.prog 45 #[.slice pb no cb,.slice qb mo xb] W (fun e w'=>e = .returned (.bool true)∧∃ n,W.drewN n=w') from by rw [← H1.out];exact ke_pairs p.od q.od _ _ _ _ W (HP.out.2.1.below hW) (HQ.out.2.1.below hW))
 have HC2:=hid (fun W (hW:Below w.heap.size w W)=>show Calls Tryd.prog 46 #[.slice pc nc cc,.slice qc mc xc] W (fun e w'=>e = .returned (.bool true)∧∃ n,W.drewN n=w') from by rw [← H2.out];exact ke_binds p.ch q.ch _ _ _ _ W (HP.out.2.2.1.below hW) (HQ.out.2.2.1.below hW))
 have HC3:=hid (fun W (hW:Below w.heap.size w W)=>show Calls Tryd.prog 46 #[.slice pd ns cd,.slice qd ms xd] W (fun e w'=>e = .returned (.bool true)∧∃ n,W.drewN n=w') from by rw [← H3.out];exact ke_binds p.st q.st _ _ _ _ W (HP.out.2.2.2.below hW) (HQ.out.2.2.2.below hW))
 go_enter Tryd.func16,Tryd.ntmps16
 go_upto_region 1 with fail
 obtain ⟨w2,hw2⟩:∃ W,(w.alloc (.cells #[.slice pa nl ca,.slice pb no cb,.slice pc nc cc,.slice pd ns cd,.bool p.sens,.int .i64 p.steps,.int .i64 p.paths,.int .i64 p.nodes,.int .i64 p.conf] 26)).alloc (.cells #[.slice qa ml xa,.slice qb mo xb,.slice qc mc xc,.slice qd ms xd,.bool q.sens,.int .i64 q.steps,.int .i64 q.paths,.int .i64 q.nodes,.int .i64 q.conf] 26)=W:=⟨_,rfl⟩
 have HB2:=hid (show Below w.heap.size w w2 from by rw [← hw2];exact ((Below.refl _ _).alloc (Nat.le_refl _) _).alloc (by rw [World.size_alloc];omega) _)
 have HX:=hid (show BxL 26 w.heap.size [.slice pa nl ca,.slice pb no cb,.slice pc nc cc,.slice pd ns cd,.bool p.sens,.int .i64 p.steps,.int .i64 p.paths,.int .i64 p.nodes,.int .i64 p.conf] w2 from by rw [← hw2];exact (BxL.new _ _ _).al _)
 have HY:=hid (show BxL 26 (w.heap.size+1) [.slice qa ml xa,.slice qb mo xb,.slice qc mc xc,.slice qd ms xd,.bool q.sens,.int .i64 q.steps,.int .i64 q.paths,.int .i64 q.nodes,.int .i64 q.conf] w2 from by rw [← hw2];have h9:=BxL.new 26 (w.alloc (.cells #[.slice pa nl ca,.slice pb no cb,.slice pc nc cc,.slice pd ns cd,.bool p.sens,.int .i64 p.steps,.int .i64 p.paths,.int .i64 p.nodes,.int .i64 p.conf] 26)) [.slice qa ml xa,.slice qb mo xb,.slice qc mc xc,.slice qd ms xd,.bool q.sens,.int .i64 q.steps,.int .i64 q.paths,.int .i64 q.nodes,.int .i64 q.conf];rw [World.size_alloc] at h9;exact h9)
 rw [hw2]
 clear hw2
 have xa0:∀ m,(w2.drewN m).cell? ⟨w.heap.size,0,none⟩=some (.slice pa nl ca):=fun m=>HX.out.at 0 rfl
 have xb0:w2.cell? ⟨w.heap.size,0,none⟩=some (.slice pa nl ca):=HX.out.at 0 rfl
 have xa1:∀ m,(w2.drewN m).cell? ⟨w.heap.size,1,none⟩=some (.slice pb no cb):=fun m=>HX.out.at 1 rfl
 have xb1:w2.cell? ⟨w.heap.size,1,none⟩=some (.slice pb no cb):=HX.out.at 1 rfl
 have xa2:∀ m,(w2.drewN m).cell? ⟨w.heap.size,2,none⟩=some (.slice pc nc cc):=fun m=>HX.out.at 2 rfl
 have xb2:w2.cell? ⟨w.heap.size,2,none⟩=some (.slice pc nc cc):=HX.out.at 2 rfl
 have xa3:∀ m,(w2.drewN m).cell? ⟨w.heap.size,3,none⟩=some (.slice pd ns cd):=fun m=>HX.out.at 3 rfl
 have xb3:w2.cell? ⟨w.heap.size,3,none⟩=some (.slice pd ns cd):=HX.out.at 3 rfl
 have xa4:∀ m,(w2.drewN m).cell? ⟨w.heap.size,4,none⟩=some (.bool p.sens):=fun m=>HX.out.at 4 rfl
 have xb4:w2.cell? ⟨w.heap.size,4,none⟩=some (.bool p.sens):=HX.out.at 4 rfl
 have xa5:∀ m,(w2.drewN m).cell? ⟨w.heap.size,5,none⟩=some (.int .i64 p.steps):=fun m=>HX.out.at 5 rfl
 have xb5:w2.cell? ⟨w.heap.size,5,none⟩=some (.int .i64 p.steps):=HX.out.at 5 rfl
 have xa6:∀ m,(w2.drewN m).cell? ⟨w.heap.size,6,none⟩=some (.int .i64 p.paths):=fun m=>HX.out.at 6 rfl
 have xb6:w2.cell? ⟨w.heap.size,6,none⟩=some (.int .i64 p.paths):=HX.out.at 6 rfl
 have xa7:∀ m,(w2.drewN m).cell? ⟨w.heap.size,7,none⟩=some (.int .i64 p.nodes):=fun m=>HX.out.at 7 rfl
 have xb7:w2.cell? ⟨w.heap.size,7,none⟩=some (.int .i64 p.nodes):=HX.out.at 7 rfl
 have xa8:∀ m,(w2.drewN m).cell? ⟨w.heap.size,8,none⟩=some (.int .i64 p.conf):=fun m=>HX.out.at 8 rfl
 have xb8:w2.cell? ⟨w.heap.size,8,none⟩=some (.int .i64 p.conf):=HX.out.at 8 rfl
 have ya0:∀ m,(w2.drewN m).cell? ⟨w.heap.size+1,0,none⟩=some (.slice qa ml xa):=fun m=>HY.out.at 0 rfl
 have yb0:w2.cell? ⟨w.heap.size+1,0,none⟩=some (.slice qa ml xa):=HY.out.at 0 rfl
 have ya1:∀ m,(w2.drewN m).cell? ⟨w.heap.size+1,1,none⟩=some (.slice qb mo xb):=fun m=>HY.out.at 1 rfl
 have yb1:w2.cell? ⟨w.heap.size+1,1,none⟩=some (.slice qb mo xb):=HY.out.at 1 rfl
 have ya2:∀ m,(w2.drewN m).cell? ⟨w.heap.size+1,2,none⟩=some (.slice qc mc xc):=fun m=>HY.out.at 2 rfl
 have yb2:w2.cell? ⟨w.heap.size+1,2,none⟩=some (.slice qc mc xc):=HY.out.at 2 rfl
 have ya3:∀ m,(w2.drewN m).cell? ⟨w.heap.size+1,3,none⟩=some (.slice qd ms xd):=fun m=>HY.out.at 3 rfl
 have yb3:w2.cell? ⟨w.heap.size+1,3,none⟩=some (.slice qd ms xd):=HY.out.at 3 rfl
 have ya4:∀ m,(w2.drewN m).cell? ⟨w.heap.size+1,4,none⟩=some (.bool q.sens):=fun m=>HY.out.at 4 rfl
 have yb4:w2.cell? ⟨w.heap.size+1,4,none⟩=some (.bool q.sens):=HY.out.at 4 rfl
 have ya5:∀ m,(w2.drewN m).cell? ⟨w.heap.size+1,5,none⟩=some (.int .i64 q.steps):=fun m=>HY.out.at 5 rfl
 have yb5:w2.cell? ⟨w.heap.size+1,5,none⟩=some (.int .i64 q.steps):=HY.out.at 5 rfl
 have ya6:∀ m,(w2.drewN m).cell? ⟨w.heap.size+1,6,none⟩=some (.int .i64 q.paths):=fun m=>HY.out.at 6 rfl
 have yb6:w2.cell? ⟨w.heap.size+1,6,none⟩=some (.int .i64 q.paths):=HY.out.at 6 rfl
 have ya7:∀ m,(w2.drewN m).cell? ⟨w.heap.size+1,7,none⟩=some (.int .i64 q.nodes):=fun m=>HY.out.at 7 rfl
 have yb7:w2.cell? ⟨w.heap.size+1,7,none⟩=some (.int .i64 q.nodes):=HY.out.at 7 rfl
 have ya8:∀ m,(w2.drewN m).cell? ⟨w.heap.size+1,8,none⟩=some (.int .i64 q.conf):=fun m=>HY.out.at 8 rfl
 have yb8:w2.cell? ⟨w.heap.size+1,8,none⟩=some (.int .i64 q.conf):=HY.out.at 8 rfl
 go_wp2_with (first
  | (go_at_call 44;(with_reducible refine (HC0.out _ HB2.out).mono ?_);rintro e w3 ⟨rfl,n0,rfl⟩;have HW0:=hid (show Below w.heap.size w (w2.drewN (n0)) from HB2.out.trans ((below_drewNQ w2 _).mono HB2.out.size)))
  | (go_at_call 45;(with_reducible refine (HC1.out _ HW0.out).mono ?_);rintro e w3 ⟨rfl,n1,rfl⟩;have HW1:=hid (show Below w.heap.size w (w2.drewN (n0+n1)) from HB2.out.trans ((below_drewNQ w2 _).mono HB2.out.size)))
  | (go_at_call 46;(with_reducible refine (HC2.out _ HW1.out).mono ?_);rintro e w3 ⟨rfl,n2,rfl⟩;have HW2:=hid (show Below w.heap.size w (w2.drewN (n0+n1+n2)) from HB2.out.trans ((below_drewNQ w2 _).mono HB2.out.size)))
  | (go_at_call 46;(with_reducible refine (HC3.out _ HW2.out).mono ?_);rintro e w3 ⟨rfl,n3,rfl⟩;have HW3:=hid (show Below w.heap.size w (w2.drewN (n0+n1+n2+n3)) from HB2.out.trans ((below_drewNQ w2 _).mono HB2.out.size))))
 go_ret
 exact ⟨rfl,HW3.out⟩
theorem keqpo_any (p q:Po) (a b c d a' b' c' d':Value) (w:World) (hp:PoV (·<w.heap.size) w a b c d p) (hq:PoV (·<w.heap.size) w a' b' c' d' q) :
  Calls Tryd.prog 16 #[.agg (poL a b c d p).toArray,.agg (poL a' b' c' d' q).toArray] w fun e w'=>e = .returned (.bool (decide (p=q)))∧Below w.heap.size w w':=by
 obtain ⟨pa,ca,h1⟩:=hp.1.slc
 obtain ⟨pb,cb,h2⟩:=hp.2.1.slc
 obtain ⟨pc,cc,h3⟩:=hp.2.2.1.slc
 obtain ⟨pd,cd,h4⟩:=hp.2.2.2.slc
 subst h1 h2 h3 h4
 obtain ⟨qa,xa,h1⟩:=hq.1.slc
 obtain ⟨qb,xb,h2⟩:=hq.2.1.slc
 obtain ⟨qc,xc,h3⟩:=hq.2.2.1.slc
 obtain ⟨qd,xd,h4⟩:=hq.2.2.2.slc
 subst h1 h2 h3 h4
 by_cases h:p.lv=q.lv
 rotate_left
 ·rw [decide_eq_false fun e=>h (congrArg Po.lv e)]
  exact keqpo_0 p q _ _ _ _ _ _ _ _ _ _ _ _ _ _ _ _ _ _ _ _ _ _ _ _ w hp hq   (hid (decide_eq_false h))
 have h0:=h
 clear h
 by_cases h:p.od=q.od
 rotate_left
 ·rw [decide_eq_false fun e=>h (congrArg Po.od e)]
  exact keqpo_1 p q _ _ _ _ _ _ _ _ _ _ _ _ _ _ _ _ _ _ _ _ _ _ _ _ w hp hq (hid (decide_eq_true h0))  (hid (decide_eq_false h))
 have h1:=h
 clear h
 by_cases h:p.ch=q.ch
 rotate_left
 ·rw [decide_eq_false fun e=>h (congrArg Po.ch e)]
  exact keqpo_2 p q _ _ _ _ _ _ _ _ _ _ _ _ _ _ _ _ _ _ _ _ _ _ _ _ w hp hq (hid (decide_eq_true h0)) (hid (decide_eq_true h1))  (hid (decide_eq_false h))
 have h2:=h
 clear h
 by_cases h:p.st=q.st
 rotate_left
 ·rw [decide_eq_false fun e=>h (congrArg Po.st e)]
  exact keqpo_3 p q _ _ _ _ _ _ _ _ _ _ _ _ _ _ _ _ _ _ _ _ _ _ _ _ w hp hq (hid (decide_eq_true h0)) (hid (decide_eq_true h1)) (hid (decide_eq_true h2))  (hid (decide_eq_false h))
 have h3:=h
 clear h
 by_cases h:p.sens=q.sens
 rotate_left
 ·rw [decide_eq_false fun e=>h (congrArg Po.sens e)]
  exact keqpo_4 p q _ _ _ _ _ _ _ _ _ _ _ _ _ _ _ _ _ _ _ _ _ _ _ _ w hp hq (hid (decide_eq_true h0)) (hid (decide_eq_true h1)) (hid (decide_eq_true h2)) (hid (decide_eq_true h3))  (beq_eq_false_iff_ne.2 h)
 have h4:=h
 clear h
 by_cases h:p.steps=q.steps
 rotate_left
 ·rw [decide_eq_false fun e=>h (congrArg Po.steps e)]
  exact keqpo_5 p q _ _ _ _ _ _ _ _ _ _ _ _ _ _ _ _ _ _ _ _ _ _ _ _ w hp hq (hid (decide_eq_true h0)) (hid (decide_eq_true h1)) (hid (decide_eq_true h2)) (hid (decide_eq_true h3)) (beq_iff_eq.2 h4) (beq_eq_false_iff_ne.2 h)
 have h5:=h
 clear h
 by_cases h:p.paths=q.paths
 rotate_left
 ·rw [decide_eq_false fun e=>h (congrArg Po.paths e)]
  exact keqpo_6 p q _ _ _ _ _ _ _ _ _ _ _ _ _ _ _ _ _ _ _ _ _ _ _ _ w hp hq (hid (decide_eq_true h0)) (hid (decide_eq_true h1)) (hid (decide_eq_true h2)) (hid (decide_eq_true h3)) (beq_iff_eq.2 h4) (beq_iff_eq.2 h5) (beq_eq_false_iff_ne.2 h)
 have h6:=h
 clear h
 by_cases h:p.nodes=q.nodes
 rotate_left
 ·rw [decide_eq_false fun e=>h (congrArg Po.nodes e)]
  exact keqpo_7 p q _ _ _ _ _ _ _ _ _ _ _ _ _ _ _ _ _ _ _ _ _ _ _ _ w hp hq (hid (decide_eq_true h0)) (hid (decide_eq_true h1)) (hid (decide_eq_true h2)) (hid (decide_eq_true h3)) (beq_iff_eq.2 h4) (beq_iff_eq.2 h5) (beq_iff_eq.2 h6) (beq_eq_false_iff_ne.2 h)
 have h7:=h
 clear h
 by_cases h:p.conf=q.conf
 rotate_left
 ·rw [decide_eq_false fun e=>h (congrArg Po.conf e)]
  exact keqpo_8 p q _ _ _ _ _ _ _ _ _ _ _ _ _ _ _ _ _ _ _ _ _ _ _ _ w hp hq (hid (decide_eq_true h0)) (hid (decide_eq_true h1)) (hid (decide_eq_true h2)) (hid (decide_eq_true h3)) (beq_iff_eq.2 h4) (beq_iff_eq.2 h5) (beq_iff_eq.2 h6) (beq_iff_eq.2 h7) (beq_eq_false_iff_ne.2 h)
 have h8:=h
 clear h
 rw [decide_eq_true (po_ext h0 h1 h2 h3 h4 h5 h6 h7 h8)]
 exact keqpo_9 p q _ _ _ _ _ _ _ _ _ _ _ _ _ _ _ _ _ _ _ _ _ _ _ _ w hp hq (hid (decide_eq_true h0)) (hid (decide_eq_true h1)) (hid (decide_eq_true h2)) (hid (decide_eq_true h3)) (beq_iff_eq.2 h4) (beq_iff_eq.2 h5) (beq_iff_eq.2 h6) (beq_iff_eq.2 h7) (beq_iff_eq.2 h8)
end Go.Proofs.YtbijamcoibonkaaDoor
