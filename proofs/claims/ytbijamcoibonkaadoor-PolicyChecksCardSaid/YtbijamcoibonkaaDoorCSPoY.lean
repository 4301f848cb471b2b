/-
 Law 28: awake.
-/
import Derived.Test.YtbijamcoibonkaaDoorCSPoX
import Derived.Deep.DeepCutAuto
namespace Go.Proofs.YtbijamcoibonkaaDoor
set_option linter.unusedSimpArgs false
set_option linter.unusedVariables false
open Go.RowKit Go.Shelf
attribute [local go_sem] Oper.semAt_some
theorem eq_p1 (pa pb pc pd qa qb qc qd:Option Addr) (ca cb cc cd xa xb xc xd:Nat) (w:World) (hp:PoV (·<w.heap.size) w (.slice pa 2 ca) (.slice pb 1 cb) (.slice pc 2 cc) (.slice pd 0 cd) p1P) (hq:PoV (·<w.heap.size) w (.slice qa 2 xa) (.slice qb 1 xb) (.slice qc 2 xc) (.slice qd 0 xd) p1P) :
  Calls Tryd.prog 16 #[.agg #[.slice pa 2 ca,.slice pb 1 cb,.slice pc 2 cc,.slice pd 0 cd,.bool true,.int .i64 20,.int .i64 16,.int .i64 0,.int .i64 0],.agg #[.slice qa 2 xa,.slice qb 1 xb,.slice qc 2 xc,.slice qd 0 xd,.bool true,.int .i64 20,.int .i64 16,.int .i64 0,.int .i64 0]] w fun e w'=>e = .returned (.bool true)∧Below w.heap.size w w':=by
 have h:=keqpo_any p1P p1P _ _ _ _ _ _ _ _ w hp hq
 rw [decide_eq_true rfl] at h
 exact h
theorem check_po0 (w:World) (hE:E28 w):Calls Tryd.prog 7 #[.agg #[.slice none 0 0,.slice none 0 0,.slice none 0 0,.slice none 0 0,.bool false,.int .i64 0,.int .i64 0,.int .i64 0,.int .i64 0]] w fun e w'=>e = .returned (.int .i64 4)∧Below w.heap.size w w' :=
 check_po po0 _ _ _ _ w ⟨SlG.nil,SlG.nil,SlG.nil,SlG.nil⟩ ⟨(by intro s hs;cases hs),(by intro s hs;cases hs),(by intro s hs;cases hs)⟩ hE.po.bru
theorem parse_one:parseP oneL=(p1P,(0,0),0):=by decide +kernel
def twoL:Bs:=Lib.replace oneL [111,114,100,101,114,32,108,111,119,32,104,105,103,104,10] [111,114,100,101,114,32,108,111,119,32,104,105,103,104,10,111,114,100,101,114,32,108,111,119,32,104,105,103,104,10] 1
theorem parse_two:(parseP twoL).2=((0,0),0)∧(parseP twoL).1.od.length=2:=by decide +kernel
def badL0:Bs:=Lib.replace oneL [109,111,100,101] [111,114,100,101,114,32,104,105,103,104,32,108,111,119,10,109,111,100,101] 1
theorem bad_0:(parseP badL0).2=((6,1),4):=by decide +kernel
set_option maxRecDepth 100000 in
theorem fail_0 (w:World) (hE:E28 w):Calls Tryd.prog 29 #[.string ⟨#[109,111,100,101]⟩,.string ⟨#[111,114,100,101,114,32,104,105,103,104,32,108,111,119,10,109,111,100,101]⟩,.int .i64 6,.int .i64 1,.int .i64 4] w fun e w'=>e = .returned (.bool true)∧Below w.heap.size w w' :=
 fails_any [109,111,100,101] [111,114,100,101,114,32,104,105,103,104,32,108,111,119,10,109,111,100,101] 6 1 4 badL0 (parseP badL0).1 (by decide) (by decide +kernel) rfl (Prod.ext rfl bad_0) w hE
def badL1:Bs:=Lib.replace oneL [111,114,100,101,114,32,108,111,119,32,104,105,103,104,10] [] 1
theorem bad_1:(parseP badL1).2=((2,1),4):=by decide +kernel
set_option maxRecDepth 100000 in
theorem fail_1 (w:World) (hE:E28 w):Calls Tryd.prog 29 #[.string ⟨#[111,114,100,101,114,32,108,111,119,32,104,105,103,104,10]⟩,.string ⟨#[]⟩,.int .i64 2,.int .i64 1,.int .i64 4] w fun e w'=>e = .returned (.bool true)∧Below w.heap.size w w' :=
 fails_any [111,114,100,101,114,32,108,111,119,32,104,105,103,104,10] [] 2 1 4 badL1 (parseP badL1).1 (by decide) (by decide +kernel) rfl (Prod.ext rfl bad_1) w hE
def badL2:Bs:=Lib.replace oneL [111,114,100,101,114,32,108,111,119,32,104,105,103,104,10] [111,114,100,101,114,32,108,111,119,32,104,105,103,104,10,111,114,100,101,114,32,104,105,103,104,32,108,111,119,10] 1
theorem bad_2:(parseP badL2).2=((4,1),9):=by decide +kernel
set_option maxRecDepth 100000 in
theorem fail_2 (w:World) (hE:E28 w):Calls Tryd.prog 29 #[.string ⟨#[111,114,100,101,114,32,108,111,119,32,104,105,103,104,10]⟩,.string ⟨#[111,114,100,101,114,32,108,111,119,32,104,105,103,104,10,111,114,100,101,114,32,104,105,103,104,32,108,111,119,10]⟩,.int .i64 4,.int .i64 1,.int .i64 9] w fun e w'=>e = .returned (.bool true)∧Below w.heap.size w w' :=
 fails_any [111,114,100,101,114,32,108,111,119,32,104,105,103,104,10] [111,114,100,101,114,32,108,111,119,32,104,105,103,104,10,111,114,100,101,114,32,104,105,103,104,32,108,111,119,10] 4 1 9 badL2 (parseP badL2).1 (by decide) (by decide +kernel) rfl (Prod.ext rfl bad_2) w hE
def badL3:Bs:=Lib.replace oneL [112,117,98,32,108,111,119] [112,117,98,32,116,111,112] 1
theorem bad_3:(parseP badL3).2=((4,10),6):=by decide +kernel
set_option maxRecDepth 100000 in
theorem fail_3 (w:World) (hE:E28 w):Calls Tryd.prog 29 #[.string ⟨#[112,117,98,32,108,111,119]⟩,.string ⟨#[112,117,98,32,116,111,112]⟩,.int .i64 4,.int .i64 10,.int .i64 6] w fun e w'=>e = .returned (.bool true)∧Below w.heap.size w w' :=
 fails_any [112,117,98,32,108,111,119] [112,117,98,32,116,111,112] 4 10 6 badL3 (parseP badL3).1 (by decide) (by decide +kernel) rfl (Prod.ext rfl bad_3) w hE
def badL4:Bs:=Lib.replace oneL [115,116,101,112,115,32,50,48] [115,116,101,112,115,32,48] 1
theorem bad_4:(parseP badL4).2=((7,7),3):=by decide +kernel
set_option maxRecDepth 100000 in
theorem fail_4 (w:World) (hE:E28 w):Calls Tryd.prog 29 #[.string ⟨#[115,116,101,112,115,32,50,48]⟩,.string ⟨#[115,116,101,112,115,32,48]⟩,.int .i64 7,.int .i64 7,.int .i64 3] w fun e w'=>e = .returned (.bool true)∧Below w.heap.size w w' :=
 fails_any [115,116,101,112,115,32,50,48] [115,116,101,112,115,32,48] 7 7 3 badL4 (parseP badL4).1 (by decide) (by decide +kernel) rfl (Prod.ext rfl bad_4) w hE
def badL5:Bs:=Lib.replace oneL [99,111,110,102,108,105,99,116,115,32,48,10] [] 1
theorem bad_5:(parseP badL5).2=((10,1),4):=by decide +kernel
set_option maxRecDepth 100000 in
theorem fail_5 (w:World) (hE:E28 w):Calls Tryd.prog 29 #[.string ⟨#[99,111,110,102,108,105,99,116,115,32,48,10]⟩,.string ⟨#[]⟩,.int .i64 10,.int .i64 1,.int .i64 4] w fun e w'=>e = .returned (.bool true)∧Below w.heap.size w w' :=
 fails_any [99,111,110,102,108,105,99,116,115,32,48,10] [] 10 1 4 badL5 (parseP badL5).1 (by decide) (by decide +kernel) rfl (Prod.ext rfl bad_5) w hE
set_option maxRecDepth 100000 in
set_option maxHeartbeats 4000000 in
theorem awake28_any (w:World) (hE:E28 w):Calls Tryd.prog 10 #[] w fun e w'=>e = .returned (.bool true)∧Below w.heap.size w w':=by
 have HE:=hid hE
 have HP1:=hid (fun W (hW:E28 W)=>parse_lit oneL p1P 0 0 0 parse_one W hW)
 have HP1:=hid (fun W (hW:E28 W)=>show Calls Tryd.prog 17 #[.string ⟨oneL.toArray⟩] W (fun e w'=>∃ pa ca pb cb pc cc pd cd,e = .returned (.tuple #[.agg #[.slice pa 2 ca,.slice pb 1 cb,.slice pc 2 cc,.slice pd 0 cd,.bool true,.int .i64 20,.int .i64 16,.int .i64 0,.int .i64 0],.agg #[.int .i64 0,.int .i64 0],.int .i64 0])∧PoV (·<w'.heap.size) w' (.slice pa 2 ca) (.slice pb 1 cb) (.slice pc 2 cc) (.slice pd 0 cd) p1P∧Below W.heap.size W w') from HP1.out W hW)
 have HRE:=hid (fun W (hW:E28 W)=>show Calls Tryd.prog 28 #[.string ⟨oneL.toArray⟩,.string ⟨#[111,114,100,101,114,32,108,111,119,32,104,105,103,104,10]⟩,.string ⟨#[111,114,100,101,114,32,108,111,119,32,104,105,103,104,10,111,114,100,101,114,32,108,111,119,32,104,105,103,104,10]⟩,.int .i64 1] W (fun e w'=>e = .returned (.string ⟨twoL.toArray⟩)∧Below W.heap.size W w') from by
  obtain ⟨m,hm⟩:=hW.ml
  exact Tryd.strings_Replace ⟨oneL.toArray⟩ ⟨#[111,114,100,101,114,32,108,111,119,32,104,105,103,104,10]⟩ ⟨#[111,114,100,101,114,32,108,111,119,32,104,105,103,104,10,111,114,100,101,114,32,108,111,119,32,104,105,103,104,10]⟩ 1 m W (by decide) hm (by decide) (by decide +kernel))
 have HP2:=hid (fun W (hW:E28 W)=>parse_lit twoL (parseP twoL).1 0 0 0 (Prod.ext rfl parse_two.1) W hW)
 obtain ⟨po,hpo⟩:∃ po,(parseP twoL).1=po:=⟨_,rfl⟩
 have hod:=parse_two.2
 rw [hpo] at HP2 hod
 have HOD:=hid hod
 clear hE hpo hod
 go_enter Tryd.func10,Tryd.ntmps10
 go_upto_region 2 with (first
  | (go_at_call 27;(with_reducible refine (one_any _).mono ?_);rintro e w9 ⟨rfl,h9⟩;subst h9)
  | (go_at_call 17;(with_reducible refine (HP1.out _ HE.out).mono ?_);rintro e w3 ⟨pa,ca,pb,cb,pc,cc,pd,cd,rfl,hv,hb⟩;have HV3:=hid hv;have HB3:=hid hb;clear hv hb))
 obtain ⟨w4,hw4⟩:∃ W,(w3.alloc (.cells #[.slice pa 2 ca,.slice pb 1 cb,.slice pc 2 cc,.slice pd 0 cd,.bool true,.int .i64 20,.int .i64 16,.int .i64 0,.int .i64 0] 26)).alloc (.cells #[.int .i64 0,.int .i64 0] 42)=W:=⟨_,rfl⟩
 have hb4:Below w3.heap.size w3 w4:=by rw [← hw4];exact ((Below.refl _ _).alloc (Nat.le_refl _) _).alloc (by rw [World.size_alloc];omega) _
 have HX4:=hid (show BxL 26 w3.heap.size [.slice pa 2 ca,.slice pb 1 cb,.slice pc 2 cc,.slice pd 0 cd,.bool true,.int .i64 20,.int .i64 16,.int .i64 0,.int .i64 0] w4 from by rw [← hw4];exact (BxL.new _ _ _).al _)
 have HY4:=hid (show BxL 42 (w3.heap.size+1) [.int .i64 0,.int .i64 0] w4 from by rw [← hw4];have h9:=BxL.new 42 (w3.alloc (.cells #[.slice pa 2 ca,.slice pb 1 cb,.slice pc 2 cc,.slice pd 0 cd,.bool true,.int .i64 20,.int .i64 16,.int .i64 0,.int .i64 0] 26)) [.int .i64 0,.int .i64 0];rw [World.size_alloc] at h9;exact h9)
 have HB4:=hid (HB3.out.trans (hb4.mono HB3.out.size))
 have HV4:=hid (HV3.out.below hb4)
 rw [hw4]
 clear hw4 hb4
 go_upto_region 3 with (first
  | (go_at_call 11;(refine (plain_any _).mono ?_);rintro e w5 ⟨qa,xa,qb,xb,qc,xc,qd,xd,rfl,hv,hb⟩;have HQ5:=hid (hv.weaken fun k hk=>hk.2);have HB5:=hid (HB4.out.trans (hb.mono HB4.out.size));have HX5:=hid (HX4.out.bel hb);have HY5:=hid (HY4.out.bel hb);have HV5:=hid (HV4.out.below hb);clear hv hb)
  | (go_at_call 12;(refine (print_p1 _ _ _ _ _ _ _ _ _ (HE.out.keep HB5.out) HQ5.out).mono ?_);rintro e w6 ⟨rfl,hb⟩;have HB6:=hid (HB5.out.trans (hb.mono HB5.out.size));have HX6:=hid (HX5.out.bel hb);have HY6:=hid (HY5.out.bel hb);have HV6:=hid (HV5.out.below hb);clear hb))
 have HBd:=hid HB6.out.drew
 have HXd:=hid (show BxL 26 w3.heap.size [.slice pa 2 ca,.slice pb 1 cb,.slice pc 2 cc,.slice pd 0 cd,.bool true,.int .i64 20,.int .i64 16,.int .i64 0,.int .i64 0] w6.drew from HX6.out)
 have HYd:=hid (show BxL 42 (w3.heap.size+1) [.int .i64 0,.int .i64 0] w6.drew from HY6.out)
 have HVd:=hid (show PoV (·<w6.drew.heap.size) w6.drew _ _ _ _ p1P from HV6.out.below (Below.refl _ _).drew)
 clear HX4 HY4 HV4 HQ5 HX5 HY5 HV5
 have hS:(fun W=>W.cell? ⟨w3.heap.size,0,none⟩=some (.slice pa 2 ca)∧W.cell? ⟨w3.heap.size,1,none⟩=some (.slice pb 1 cb)∧W.cell? ⟨w3.heap.size,2,none⟩=some (.slice pc 2 cc)∧W.cell? ⟨w3.heap.size,3,none⟩=some (.slice pd 0 cd)∧W.cell? ⟨w3.heap.size,4,none⟩=some (.bool true)∧W.cell? ⟨w3.heap.size,5,none⟩=some (.int .i64 20)∧W.cell? ⟨w3.heap.size,6,none⟩=some (.int .i64 16)∧W.cell? ⟨w3.heap.size,7,none⟩=some (.int .i64 0)∧W.cell? ⟨w3.heap.size,8,none⟩=some (.int .i64 0)∧W.cell? ⟨w3.heap.size+1,0,none⟩=some (.int .i64 0)∧W.cell? ⟨w3.heap.size+1,1,none⟩=some (.int .i64 0)) w6.drew:=⟨HXd.out.at 0 rfl,HXd.out.at 1 rfl,HXd.out.at 2 rfl,HXd.out.at 3 rfl,HXd.out.at 4 rfl,HXd.out.at 5 rfl,HXd.out.at 6 rfl,HXd.out.at 7 rfl,HXd.out.at 8 rfl,HYd.out.at 0 rfl,HYd.out.at 1 rfl⟩
 have hFa:=fT
 refine rgN (fun W=>W.cell? ⟨w3.heap.size,0,none⟩=some (.slice pa 2 ca)∧W.cell? ⟨w3.heap.size,1,none⟩=some (.slice pb 1 cb)∧W.cell? ⟨w3.heap.size,2,none⟩=some (.slice pc 2 cc)∧W.cell? ⟨w3.heap.size,3,none⟩=some (.slice pd 0 cd)∧W.cell? ⟨w3.heap.size,4,none⟩=some (.bool true)∧W.cell? ⟨w3.heap.size,5,none⟩=some (.int .i64 20)∧W.cell? ⟨w3.heap.size,6,none⟩=some (.int .i64 16)∧W.cell? ⟨w3.heap.size,7,none⟩=some (.int .i64 0)∧W.cell? ⟨w3.heap.size,8,none⟩=some (.int .i64 0)∧W.cell? ⟨w3.heap.size+1,0,none⟩=some (.int .i64 0)∧W.cell? ⟨w3.heap.size+1,1,none⟩=some (.int .i64 0)) 22 (by kernel_rfl) ?_
 simp only [List.size_toArray,List.length_cons,List.length_nil,Nat.reduceAdd]
 (refine wpHJ_nx (v:=?_) 22 rfl rfl (by kernel_rfl) nE hS ?_ ?_;rotate_left;(focus refine Or.inl ⟨by rfl,?_⟩;rintro w' ⟨s0,s1,s2,s3,s4,s5,s6,s7,s8,s9,s10⟩;go_simp;try rfl);simp only [Act.put,actP,actQ])
 refine wpHJ_only 1 (by kernel_rfl) rfl (fun K hK=>?_)
 go_simp
 (refine (callsIn_wide.2 (plain_any _)).mono ?_)
 rintro e wa ⟨qa,xa,qb,xb,qc,xc,qd,xd,rfl,hv,hb⟩
 have HBa:=hid (HBd.out.trans (hb.mono HBd.out.size))
 have HXa:=hid (HXd.out.bel hb)
 have HYa:=hid (HYd.out.bel hb)
 have HVa:=hid (HVd.out.below hb)
 have HQa:=hid (hv.weaken fun k hk=>hk.2)
 clear hv hb
 refine hK _ _ (.inr (.inr ⟨HXa.out.at 0 rfl,HXa.out.at 1 rfl,HXa.out.at 2 rfl,HXa.out.at 3 rfl,HXa.out.at 4 rfl,HXa.out.at 5 rfl,HXa.out.at 6 rfl,HXa.out.at 7 rfl,HXa.out.at 8 rfl,HYa.out.at 0 rfl,HYa.out.at 1 rfl⟩)) ?_
 clear hK K
 refine wpHJ_only 2 (by kernel_rfl) rfl (fun K hK=>?_)
 go_simp
 (refine (callsIn_wide.2 (eq_p1 _ _ _ _ _ _ _ _ _ _ _ _ _ _ _ _ _ HVa.out HQa.out)).mono ?_)
 rintro e wb ⟨rfl,hb⟩
 have HBb:=hid (HBa.out.trans (hb.mono HBa.out.size))
 have HXb:=hid (HXa.out.bel hb)
 have HYb:=hid (HYa.out.bel hb)
 clear hb
 refine hK _ _ (.inr (.inr ⟨HXb.out.at 0 rfl,HXb.out.at 1 rfl,HXb.out.at 2 rfl,HXb.out.at 3 rfl,HXb.out.at 4 rfl,HXb.out.at 5 rfl,HXb.out.at 6 rfl,HXb.out.at 7 rfl,HXb.out.at 8 rfl,HYb.out.at 0 rfl,HYb.out.at 1 rfl⟩)) ?_
 clear hK K
 iterate 12 (refine wpHJ_nx (v:=?_) 22 rfl rfl (by kernel_rfl) nE ⟨HXb.out.at 0 rfl,HXb.out.at 1 rfl,HXb.out.at 2 rfl,HXb.out.at 3 rfl,HXb.out.at 4 rfl,HXb.out.at 5 rfl,HXb.out.at 6 rfl,HXb.out.at 7 rfl,HXb.out.at 8 rfl,HYb.out.at 0 rfl,HYb.out.at 1 rfl⟩ ?_ ?_;rotate_left;(focus refine Or.inl ⟨by simp [Region.wanted,yielded,undef],?_⟩;rintro w' ⟨s0,s1,s2,s3,s4,s5,s6,s7,s8,s9,s10⟩;go_simp;try rfl);simp only [Act.put,actP,actQ])
 refine wpHJ_only 15 (by kernel_rfl) rfl (fun K hK=>?_)
 rw [if_pos (by simp [Region.wanted,yielded,undef])]
 go_simp
 (refine (callsIn_wide.2 (one_any _)).mono ?_)
 rintro e w9 ⟨rfl,h9⟩
 subst h9
 refine hK _ _ (.inr (.inr ⟨HXb.out.at 0 rfl,HXb.out.at 1 rfl,HXb.out.at 2 rfl,HXb.out.at 3 rfl,HXb.out.at 4 rfl,HXb.out.at 5 rfl,HXb.out.at 6 rfl,HXb.out.at 7 rfl,HXb.out.at 8 rfl,HYb.out.at 0 rfl,HYb.out.at 1 rfl⟩)) ?_
 clear hK K
 iterate 6 (refine wpHJ_nx (v:=?_) 22 rfl rfl (by kernel_rfl) nE ⟨HXb.out.at 0 rfl,HXb.out.at 1 rfl,HXb.out.at 2 rfl,HXb.out.at 3 rfl,HXb.out.at 4 rfl,HXb.out.at 5 rfl,HXb.out.at 6 rfl,HXb.out.at 7 rfl,HXb.out.at 8 rfl,HYb.out.at 0 rfl,HYb.out.at 1 rfl⟩ ?_ ?_;rotate_left;(focus refine Or.inl ⟨by simp [Region.wanted,yielded,undef],?_⟩;rintro w' ⟨s0,s1,s2,s3,s4,s5,s6,s7,s8,s9,s10⟩;go_simp;try rfl);simp only [Act.put,actP,actQ])
 refine wpHJ_done (by kernel_rfl) ?_ _
 simp only [onlyN,Exit.then]
 clear hFa
 clear hS
 go_upto_region 6 with (first
  | (go_at_call 27;(with_reducible refine (one_any _).mono ?_);rintro e w9 ⟨rfl,h9⟩;subst h9)
  | (go_at_call 28;(with_reducible refine (HRE.out _ (HE.out.keep HBb.out)).mono ?_);rintro e w7 ⟨rfl,hb⟩;have HB7:=hid (HBb.out.trans (hb.mono HBb.out.size));clear hb)
  | (go_at_call 17;(with_reducible refine (HP2.out _ (HE.out.keep HB7.out)).mono ?_);rintro e w8 ⟨ra,ya,rb,yb,rc,yc,rd,yd,rfl,hv,hb⟩;have HB8:=hid (HB7.out.trans (hb.mono HB7.out.size));clear hv hb))
 rw [HOD.out]
 obtain ⟨nl,hnl⟩:∃ n,po.lv.length=n:=⟨_,rfl⟩
 obtain ⟨nc,hnc⟩:∃ n,po.ch.length=n:=⟨_,rfl⟩
 obtain ⟨ns,hns⟩:∃ n,po.st.length=n:=⟨_,rfl⟩
 rw [hnl,hnc,hns]
 clear hnl hnc hns
 have HA0:=hid ((HB8.out.alloc HB8.out.size (.cells #[.slice ra nl ya,.slice rb 2 yb,.slice rc nc yc,.slice rd ns yd,.bool po.sens,.int .i64 po.steps,.int .i64 po.paths,.int .i64 po.nodes,.int .i64 po.conf] 26)).alloc (by rw [World.size_alloc];have:=HB8.out.size;omega) (.cells #[.int .i64 0,.int .i64 0] 42))
 go_wp2_with (first
  | (go_at_call 29;(with_reducible refine (fail_0 _ (HE.out.keep HA0.out)).mono ?_);rintro e u0 ⟨rfl,hb⟩;have HA1:=hid (HA0.out.trans (hb.mono HA0.out.size));clear hb)
  | (go_at_call 29;(with_reducible refine (fail_1 _ (HE.out.keep HA1.out)).mono ?_);rintro e u1 ⟨rfl,hb⟩;have HA2:=hid (HA1.out.trans (hb.mono HA1.out.size));clear hb)
  | (go_at_call 29;(with_reducible refine (fail_2 _ (HE.out.keep HA2.out)).mono ?_);rintro e u2 ⟨rfl,hb⟩;have HA3:=hid (HA2.out.trans (hb.mono HA2.out.size));clear hb)
  | (go_at_call 29;(with_reducible refine (fail_3 _ (HE.out.keep HA3.out)).mono ?_);rintro e u3 ⟨rfl,hb⟩;have HA4:=hid (HA3.out.trans (hb.mono HA3.out.size));clear hb)
  | (go_at_call 29;(with_reducible refine (fail_4 _ (HE.out.keep HA4.out)).mono ?_);rintro e u4 ⟨rfl,hb⟩;have HA5:=hid (HA4.out.trans (hb.mono HA4.out.size));clear hb)
  | (go_at_call 29;(with_reducible refine (fail_5 _ (HE.out.keep HA5.out)).mono ?_);rintro e u5 ⟨rfl,hb⟩;have HA6:=hid (HA5.out.trans (hb.mono HA5.out.size));clear hb)
  | (go_at_call 7;(with_reducible refine (check_po0 _ (HE.out.keep HA6.out)).mono ?_);rintro e u6 ⟨rfl,hb⟩;have HA7:=hid (HA6.out.trans (hb.mono HA6.out.size));clear hb))
 go_ret
 exact ⟨rfl,HA7.out⟩
end Go.Proofs.YtbijamcoibonkaaDoor
