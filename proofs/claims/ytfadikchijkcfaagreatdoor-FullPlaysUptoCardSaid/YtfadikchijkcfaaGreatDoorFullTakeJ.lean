/- A session behind a login, by the document: a text request without a tag. -/
import Derived.Test.YtfadikchijkcfaaGreatDoorParsePure
import Derived.Test.YtfadikchijkcfaaGreatDoorFullTakeR2
import Derived.Test.YtfadikchijkcfaaGreatDoorBothN
import Derived.Test.YtfadikchijkcfaaGreatDoorFullTake
import Derived.Test.YtfadikchijkcfaaGreatDoorTList
import Derived.Test.YtfadikchijkcfaaGreatDoorPairPrintR
import Derived.Deep.RegionHeld3
import Derived.Deep.DeepCutAuto
import Derived.Deep.LoopGhost
import Derived.Test.YtfadikchijkcfaaGreatDoorFullTakeR7
set_option linter.unusedVariables false
set_option linter.unusedSectionVars false
set_option linter.unusedSimpArgs false
set_option maxRecDepth 100000
set_option maxHeartbeats 64000000
namespace Go.Proofs.YtfadikchijkcfaaGreatDoor
section
open Go.Proofs.Tryz
open Go Go.RowKit
structure RMid(w:World)(B g gp gn y:Nat)(ov rv lv ta ga ua oa:Value)(sn ss:List UInt8)(lim:Int)(c:FCf)(s2:FSt)(pc:Array Value)(X:Nat)(W:World):Prop where
 F:YO W B g gp gn ov rv lv ta ga ua oa sn ss lim c s2
 K:Y1 (fun k=>k=g) w W
 bp:Blk W (w.heap.size+1) 63 pc
 bf:Blk W w.heap.size 52 #[.pointer (some ⟨g,0,none⟩)]
 bx:Blk W y 106 #[.int .u64 (X:Int)]
 y0:w.heap.size+2≤y
section
variable {w:World}{B g gp gn:Nat}{ov rv lv:Value}{sn ss:List UInt8}{lim:Int}{c:FCf}{s:FSt}{us:PL}{ta ga ua oa:Option Addr}{tc gc uc oc:Nat}
theorem Y8X(p:PK)(v av:Value)(h:YO w B g gp gn ov rv lv (.slice ta c.ts.length tc) (.slice ga c.gs.length gc) (.slice ua us.length uc) (.slice oa c.own.length oc) sn ss lim c s)(hp:Y1Y B w p v av)(hV:Env B w)(hcl:s.closed=false)(hE:Y2L p.op p.now p.flags p.vs p.n p.I p.d=0)
 (hC:Y4f B w c us sn ss lim (.slice ta c.ts.length tc) (.slice ga c.gs.length gc) (.slice ua us.length uc) (.slice oa c.own.length oc)) (ht:c.ts.length≤2500) (hgs:c.gs.length≤2500) (s2:FSt) (hs2:(p.now=true∧s2=s)∨(p.now=false∧(p.v Y1d:Int)=s.cmd∧s2= {s with cmd:=up1 s.cmd})) (hO:AskOk c s2 p) (hop:p.op=4) (htt:p.v YB=Y26)
 (hML: ∀W,Y1 (fun k=>B≤k) w W→ML W) (hrb: ∀k,(s2.rc.getD k ([],[])).1.length≤9223372036854775807):
 Calls prog 16 #[.pointer (some ⟨g,0,none⟩),pkV p v av] w fun e w'=>Y1b 75 143 84 w B g gp gn ov rv (.slice ta c.ts.length tc) (.slice ga c.gs.length gc) (.slice ua us.length uc) (.slice oa c.own.length oc) sn ss lim c ((Y5T c s2 p (Y1V p.flags) (Y6G p.flags)).1,(Y5T c s2 p (Y1V p.flags) (Y6G p.flags)).2,0) (fun k=> .int .i64 (k:Nat)) e w':=by
 have hp0:=hp w (Y1.refl _ _)
 obtain⟨⟨va,vc,rfl⟩,aa,ac,rfl⟩:=hp0.forms
 obtain⟨W1,hW1⟩: ∃W1,(w.alloc (.cells #[.pointer (some ⟨g,0,none⟩)] 52)).alloc (.cells (pkC p (.slice va p.vs.length vc) (.slice aa p.n ac)) 63)=W1:=⟨_,rfl⟩
 have b1:Below w.heap.size w W1:=by rw[←hW1];exact((Yea _ _).alloc (Ye9 _) _).alloc (by simp) _
 have B1:Blk W1 (w.heap.size+1) 63 (pkC p (.slice va p.vs.length vc) (.slice aa p.n ac)):=by
  have h:=Blk.new (w.alloc (.cells #[.pointer (some ⟨g,0,none⟩)] 52)) 63 (pkC p (.slice va p.vs.length vc) (.slice aa p.n ac))
  rw[←hW1,show w.heap.size+1=(w.alloc (.cells #[.pointer (some ⟨g,0,none⟩)] 52)).heap.size by simp]
  exact h
 have X1:Blk W1 w.heap.size 52 #[.pointer (some ⟨g,0,none⟩)]:=by rw[←hW1];exact(Blk.new w _ _).below ((Yea _ _).alloc (Ye9 _) _)
 have hgl:=h.blk.lt
 have hgB:=h.gB
 have z1:W1.heap.size=w.heap.size+2:=by rw[←hW1];simp
 have K1:Y1 (fun k=>B≤k) w W1:=(Y1.refl _ w).below b1
 have V1:=hV.all W1 K1
 have hp1:=hp W1 K1
 have hpd:pkV p (.slice va p.vs.length vc) (.slice aa p.n ac)=Y1a p.op p.now p.flags (.slice va p.vs.length vc) (.slice aa p.n ac) p.d:=rfl
 have cR:=hid (Y4T p.op p.now p.flags (.slice va p.vs.length vc) p.vs (.slice aa p.n ac) p.n p.I p.d W1 hp1 V1.2.2.2 V1.1 V1.2.1)
 have G1:=h.blk.below b1
 have s14:=(G1.cell 14).trans (rfl:_=some (Value.bool s.closed))
 have x0:=(X1.cell 0).trans (rfl:_=some (Value.pointer (some ⟨g,0,none⟩)))
 have t0:=(B1.cell 0).trans (rfl:_=some (Value.int .i64 p.op))
 have t1:=(B1.cell 1).trans (rfl:_=some (Value.bool p.now))
 have t2:=(B1.cell 2).trans (rfl:_=some (Value.int .i64 p.flags))
 have t3:=(B1.cell 3).trans (rfl:_=some (Value.slice va p.vs.length vc))
 have t4:=(B1.cell 4).trans (rfl:_=some (Value.slice aa p.n ac))
 have t5:=(B1.cell 5).trans (rfl:_=some (Value.string (bs p.d)))
 unfold pkC at hW1
 unfold Y1a at cR
 have hmm:=@run_makeMap prog
 have hmf: ∀ (fn:Fn) (first cap:Array Value) (w:World),(Instr.makeFunc fn first cap).run prog w= .ok (.func fn first cap) w:=fun _ _ _ _=>rfl
 rw[hE]at cR
 rw[hcl]at s14
 have HH:=hid h
 have HP:=hid hp
 have HV:=hid hV
 have HB1:=hid B1
 have HX1:=hid X1
 have o0:=hp0.op0
 have o1:=hp0.op1
 have HE:=hid hE
 have CV:=fun(name:List UInt8) (W:World) (hk:Y1 (fun k=>B≤k) w W)=>hid (Y8Y p _ _ W (hp W hk) (hV.all W hk).1 (hV.all W hk).2.1 name)
 unfold pkV Y1a at CV ⊢
 have n0:(p.op !=0)=true:=by rw[hop];rfl
 have e0:(p.op == 0)=false:=by rw[hop];rfl
 have n4:(p.op !=4)=false:=by rw[hop];rfl
 have n6:(p.op !=6)=true:=by rw[hop];rfl
 have e6:(p.op == 6)=false:=by rw[hop];rfl
 have hwx:IntKind.u64.wrap s.cmd=s.cmd:=by rw[IntKind.wrap_u64];have:=h.c0;have:=h.c1;omega
 obtain⟨fl0,fl1⟩:=Y5Y hE
 have et:((p.v YB:Int) !=4294967295)=false:=by rw[htt];rfl
 have hdl:=(Y4k hE).2
 have hgpl0:=h.gat.lt
 have hgnl0:=h.neg.lt
 obtain⟨mo,hmo⟩: ∃mo,Y1V p.flags=mo:=⟨_,rfl⟩
 obtain⟨la,hla⟩: ∃la,Y6G p.flags=la:=⟨_,rfl⟩
 obtain⟨f6,hf6⟩: ∃f6,IntKind.i64.wrap (p.flags.tdiv 64)=f6:=⟨_,rfl⟩
 obtain⟨f7,hf7⟩: ∃f7,f6.tmod 2=f7:=⟨_,rfl⟩
 obtain⟨f8,hf8⟩: ∃f8,IntKind.i64.wrap (p.flags.tdiv 128)=f8:=⟨_,rfl⟩
 have h64:(f7 == 1)=mo:=by
  rw[←hf7,←hf6,Int.tdiv_eq_ediv_of_nonneg fl0,show IntKind.i64.wrap (p.flags / 64)=p.flags / 64 by rw[IntKind.wrap_i64];omega,Ygb (by omega),←hmo]
  rfl
 have h128:(f8 == 1)=la:=by
  rw[←hf8,Int.tdiv_eq_ediv_of_nonneg fl0,show IntKind.i64.wrap (p.flags / 128)=p.flags / 128 by rw[IntKind.wrap_i64];omega,←hla]
  unfold Y6G
  rw[show p.flags / 128 % 2=p.flags / 128 by omega]
  rfl
 have hI:inP s2 p=(Y18 8192 s2.text p.d mo).2.1:=by unfold inP;rw[hmo]
 have HMO:=hid hmo
 have HML:=hid hML
 have HLA:=hid hla
 have HI:=hid hI
 have HC:=hid hC
 have HS2:=hid hs2
 have HO:=hid hO
 clear hp hp0 hp1 V1 hV h B1 X1 G1 hE hcl hpd hop htt hC hs2 hO hmo hla hI fl0 fl1 hML
 go_enter func16,ntmps16
 go_wp2_with fail
 go_at_call 52
 refine cR.out.mono ?_
 rintro e w2 ⟨rfl,hb2⟩
 have b2:=b1.trans (hb2.mono b1.size)
 have z2:w.heap.size+2≤w2.heap.size:=by rw[←z1];exact hb2.size
 have B2:=HB1.out.below hb2
 have X2:=HX1.out.below hb2
 have x0:=(X2.cell 0).trans (rfl:_=some (Value.pointer (some ⟨g,0,none⟩)))
 have t0:=(B2.cell 0).trans (rfl:_=some (Value.int .i64 p.op))
 have t1:=(B2.cell 1).trans (rfl:_=some (Value.bool p.now))
 have t2:=(B2.cell 2).trans (rfl:_=some (Value.int .i64 p.flags))
 have t3:=(B2.cell 3).trans (rfl:_=some (Value.slice va p.vs.length vc))
 have t4:=(B2.cell 4).trans (rfl:_=some (Value.slice aa p.n ac))
 have t5:=(B2.cell 5).trans (rfl:_=some (Value.string (bs p.d)))
 have tk:=fun(W:World) (hb:Below w2.heap.size w2 W)=>(⟨(hb.cell (Yeb t0)).trans t0,(hb.cell (Yeb t1)).trans t1,(hb.cell (Yeb t2)).trans t2,(hb.cell (Yeb t3)).trans t3,(hb.cell (Yeb t4)).trans t4,(hb.cell (Yeb t5)).trans t5⟩:W.cell? ⟨w.heap.size+1,0,none⟩=some (Value.int .i64 p.op)∧W.cell? ⟨w.heap.size+1,1,none⟩=some (Value.bool p.now)∧W.cell? ⟨w.heap.size+1,2,none⟩=some (Value.int .i64 p.flags)∧W.cell? ⟨w.heap.size+1,3,none⟩=some (Value.slice va p.vs.length vc)∧W.cell? ⟨w.heap.size+1,4,none⟩=some (Value.slice aa p.n ac)∧W.cell? ⟨w.heap.size+1,5,none⟩=some (Value.string (bs p.d)))
 have TK:=hid tk
 clear tk
 have HB2:=hid B2
 have HX2:=hid X2
 clear B2 X2
 have hmx:prog.follows .mixedOrders=true:=by kernel_rfl
 go_wp2_with fail
 refine YeS (n:=4).1 ?_
 refine Yk (G:=Nat) (fun y=> [(38,.pointer (some ⟨w.heap.size+1,0,none⟩)),(39,.pointer (some ⟨w.heap.size+1,0,none⟩)),(40,.int .i64 p.op),(41,.agg #[.int .i64 p.op,.bool p.now,.int .i64 p.flags,.slice va p.vs.length vc,.slice aa p.n ac,.string (bs p.d)]),(42,.int .u64 (p.v Ye:Nat)),(9,.pointer (some ⟨y,0,none⟩)),(8,.int .i64 p.op)])
  (Y2o w2 (p.v Ye))
  0 (aF:= ?kA) ?kB hmx [38,39,40,41,42,9,8] (fun _=>rfl) (by kernel_rfl) (by kernel_rfl) ?kS ?kE ?kQ
 case kB =>
  intro y
  simp only[Yn,YeP,Yfn,YeF,Yf4,Yf3]
  exact rfl
 case kS=>exact⟨(Yea _ _).drew,by simp⟩
 case kE =>
  as_aux_lemma =>
   have cX:=fun W (hb:Below w2.heap.size w2 W)=>CV Ye W ((Y1.refl _ w).below (b2.trans (hb.mono b2.size)))
   refine⟨?o0,?o1,?o2,?o3,?o4,?o5,?o6,?o7,trivial⟩
   all_goals refine⟨by simp,fun d y W hC hd hdep=>⟨by first | (simp[go_sem,Oper.about];done) | (simp[go_sem,Oper.about];exact trivial),?_⟩⟩
   case o4 =>
    refine Yw (f:=56) (args:= #[.agg #[.int .i64 p.op,.bool p.now,.int .i64 p.flags,.slice va p.vs.length vc,.slice aa p.n ac,.string (bs p.d)],.string ⟨#[73,84,84]⟩]) (w':=W) (by simp[go_sem]) rfl (by simp) (Yez.2 ((cX W hC.1).out.mono ?_))
    rintro e W2 ⟨rfl,hb⟩
    exact⟨y,by simp[go_sem],.inl rfl,hC.call hb⟩
   case o5 =>
    exact YL W.heap.size [9] (w':=W.alloc (.cells #[.int .u64 0] 106)) (by simp[go_sem]) rfl (by kernel_rfl) (by simp[Y1g]) (hC.box hd)
   case o7 =>
    simp[Region.binds]at hdep
    have h5:d 5=true:=by simp[hdep]
    obtain⟨h1,h2⟩:=hC.2.2 h5
    have f0:=h2.free 0
    have c0:=h2.cell 0
    exact YX (w':=W.setCell ⟨y,0,none⟩ (.int .u64 (p.v Ye:Nat))) (by simp[go_sem,f0,c0]) rfl (hC.put h5)
   all_goals
    obtain⟨q0,q1,q2,q3,q4,q5⟩:=TK.out W hC.1
    exact Yz (by simp[go_sem,q0,q1,q2,q3,q4,q5]) rfl (hC.same _ (by omega) (by omega))
 case kQ =>
  rintro d y w3 hall ⟨b3,-,hbox⟩
  obtain⟨hy,Y3⟩:=hbox (hall 5 (by simp))
  rw[Yei (hall 7 (by simp))]at Y3
  have yi:=(Y3.cell 0).trans (rfl:_=some (Value.int .u64 (p.v Ye:Nat)))
  have b3w:=b2.trans (b3.mono b2.size)
  have B3:=HB2.out.below b3
  have X3:=HX2.out.below b3
  have x0:=(X3.cell 0).trans (rfl:_=some (Value.pointer (some ⟨g,0,none⟩)))
  have F3:=HH.out.below b3w
  obtain⟨t0,t1,t2,t3,t4,t5⟩:=TK.out w3 b3
  have hz3:=b3.size
  have HY3:=hid Y3
  have HB3:=hid B3
  have HX3:=hid X3
  gi_wp2
  have HCV:=hid CV
  have HF3:=hid F3
  have HK3:=hid ((Y1.refl (fun k=>k=g) w).below b3w)
  clear CV B3 X3 Y3
  obtain⟨nb,hnb⟩: ∃nb,(!p.now)=nb:=⟨_,rfl⟩
  go_upto_if 66 with fail
  have HNB:=hid hnb
  clear hnb
  go_cut [] (fun wx=>RMid w B g gp gn y ov rv lv (.slice ta c.ts.length tc) (.slice ga c.gs.length gc) (.slice ua us.length uc) (.slice oa c.own.length oc) sn ss lim c s2 (pkC p (.slice va p.vs.length vc) (.slice aa p.n ac)) (p.v Ye) wx)
  case first =>
   as_aux_lemma =>
    rcases HS2.out with ⟨hn,hs'⟩ | ⟨hn,hm,hs'⟩
    ·obtain rfl:nb=false:=by have:=HNB.out;rw[hn]at this;exact this.symm
     have HM:Hid (RMid w B g gp gn y ov rv lv (.slice ta c.ts.length tc) (.slice ga c.gs.length gc) (.slice ua us.length uc) (.slice oa c.own.length oc) sn ss lim c s2 (pkC p (.slice va p.vs.length vc) (.slice aa p.n ac)) (p.v Ye) w3):=hid ⟨by rw[hs'];exact HF3.out,HK3.out,HB3.out,HX3.out,HY3.out,by omega⟩
     clear hn hs' F3
     go_wp2_with fail
     go_meet
     case rel=>exact HM.out
    ·obtain rfl:nb=true:=by have:=HNB.out;rw[hn]at this;exact this.symm
     have hme:((p.v Y1d:Int) !=s.cmd)=false:=by simp[hm]
     clear hn hm
     have s11:=(F3.blk.cell 11).trans (rfl:_=some (Value.int .u32 s.cmd))
     have cvS: ∀ (name:List UInt8) (W:World),(W.cell? ⟨w.heap.size+1,0,none⟩=some (.int .i64 p.op)∧W.cell? ⟨w.heap.size+1,1,none⟩=some (.bool p.now)∧W.cell? ⟨w.heap.size+1,2,none⟩=some (.int .i64 p.flags)∧W.cell? ⟨w.heap.size+1,3,none⟩=some (.slice va p.vs.length vc)∧W.cell? ⟨w.heap.size+1,4,none⟩=some (.slice aa p.n ac)∧W.cell? ⟨w.heap.size+1,5,none⟩=some (.string (bs p.d))∧W.cell? ⟨w.heap.size,0,none⟩=some (.pointer (some ⟨g,0,none⟩))∧W.cell? ⟨y,0,none⟩=some (.int .u64 (p.v Ye:Nat))∧W.cell? ⟨g,11,none⟩=some (.int .u32 s.cmd)∧Below w3.heap.size w3 W)→Hid (Calls prog 56 #[.agg #[.int .i64 p.op,.bool p.now,.int .i64 p.flags,.slice va p.vs.length vc,.slice aa p.n ac,.string (bs p.d)],.string (bs name)] W fun e w'=>e= .returned (.int .u64 (p.v name:Nat))∧w'.cell? ⟨w.heap.size+1,0,none⟩=some (.int .i64 p.op)∧w'.cell? ⟨w.heap.size+1,1,none⟩=some (.bool p.now)∧w'.cell? ⟨w.heap.size+1,2,none⟩=some (.int .i64 p.flags)∧w'.cell? ⟨w.heap.size+1,3,none⟩=some (.slice va p.vs.length vc)∧w'.cell? ⟨w.heap.size+1,4,none⟩=some (.slice aa p.n ac)∧w'.cell? ⟨w.heap.size+1,5,none⟩=some (.string (bs p.d))∧w'.cell? ⟨w.heap.size,0,none⟩=some (.pointer (some ⟨g,0,none⟩))∧w'.cell? ⟨y,0,none⟩=some (.int .u64 (p.v Ye:Nat))∧w'.cell? ⟨g,11,none⟩=some (.int .u32 s.cmd)∧Below w3.heap.size w3 w'):=by
      rintro name W ⟨i0,i1,i2,i3,i4,i5,i6,i7,i11,iB⟩
      refine hid ((HCV.out name W ((Y1.refl _ w).below (b3w.trans (iB.mono b3w.size)))).out.mono ?_)
      rintro e w' ⟨he,hb⟩
      exact⟨he,(hb.cell (Yeb i0)).trans i0,(hb.cell (Yeb i1)).trans i1,(hb.cell (Yeb i2)).trans i2,(hb.cell (Yeb i3)).trans i3,(hb.cell (Yeb i4)).trans i4,(hb.cell (Yeb i5)).trans i5,(hb.cell (Yeb i6)).trans i6,(hb.cell (Yeb i7)).trans i7,(hb.cell (Yeb i11)).trans i11,iB.trans (hb.mono iB.size)⟩
     have hS0:w3.drew.cell? ⟨w.heap.size+1,0,none⟩=some (.int .i64 p.op)∧w3.drew.cell? ⟨w.heap.size+1,1,none⟩=some (.bool p.now)∧w3.drew.cell? ⟨w.heap.size+1,2,none⟩=some (.int .i64 p.flags)∧w3.drew.cell? ⟨w.heap.size+1,3,none⟩=some (.slice va p.vs.length vc)∧w3.drew.cell? ⟨w.heap.size+1,4,none⟩=some (.slice aa p.n ac)∧w3.drew.cell? ⟨w.heap.size+1,5,none⟩=some (.string (bs p.d))∧w3.drew.cell? ⟨w.heap.size,0,none⟩=some (.pointer (some ⟨g,0,none⟩))∧w3.drew.cell? ⟨y,0,none⟩=some (.int .u64 (p.v Ye:Nat))∧w3.drew.cell? ⟨g,11,none⟩=some (.int .u32 s.cmd)∧Below w3.heap.size w3 w3.drew:=⟨t0,t1,t2,t3,t4,t5,x0,yi,s11,(Yea _ _).drew⟩
     have hyl:y<w3.heap.size:=Yeb yi
     clear F3
     go_upto_region 12 with fail
     go_region_held3 (fun w'=>w'.cell? ⟨w.heap.size+1,0,none⟩=some (.int .i64 p.op)∧w'.cell? ⟨w.heap.size+1,1,none⟩=some (.bool p.now)∧w'.cell? ⟨w.heap.size+1,2,none⟩=some (.int .i64 p.flags)∧w'.cell? ⟨w.heap.size+1,3,none⟩=some (.slice va p.vs.length vc)∧w'.cell? ⟨w.heap.size+1,4,none⟩=some (.slice aa p.n ac)∧w'.cell? ⟨w.heap.size+1,5,none⟩=some (.string (bs p.d))∧w'.cell? ⟨w.heap.size,0,none⟩=some (.pointer (some ⟨g,0,none⟩))∧w'.cell? ⟨y,0,none⟩=some (.int .u64 (p.v Ye:Nat))∧w'.cell? ⟨g,11,none⟩=some (.int .u32 s.cmd)∧Below w3.heap.size w3 w')
      (first | exact hS0 | assumption | exact⟨by assumption,by assumption,by assumption,by assumption,by assumption,by assumption,by assumption,by assumption,by assumption,by assumption⟩)
      (first | (go_at_call 56;refine(cvS Y1d _ ?_).out.mono ?_;(first | exact hS0 | assumption | exact⟨by assumption,by assumption,by assumption,by assumption,by assumption,by assumption,by assumption,by assumption,by assumption,by assumption⟩);rintro e w4 ⟨rfl,c0,c1,c2,c3,c4,c5,cx,cy,c11,b4⟩))
     have F4:=HF3.out.below b4
     have G4':=F4.blk
     have f11:=G4'.free 11
     have hwc:IntKind.u32.wrap (s.cmd+1)=up1 s.cmd:=by rw[Yfo];rfl
     obtain⟨Wc,hWc⟩: ∃Wc,w4.setCell ⟨g,11,none⟩ (.int .u32 (up1 s.cmd))=Wc:=⟨_,rfl⟩
     have Kc:Y1 (fun k=>k=g) w4 Wc:=by rw[←hWc];exact(Y1.refl _ w4).set _ _ (.inl rfl)
     have Gc:Blk Wc g 75 (Y14 (.pointer (some ⟨gn,0,none⟩)) (.slice ta c.ts.length tc) (.slice ga c.gs.length gc) (.slice ua us.length uc) (.slice oa c.own.length oc) sn ss lim c.name c.disc s.stat (up1 s.cmd) (.pointer (some ⟨gp,0,none⟩)) lv s.closed):=by rw[←hWc];exact G4'.set 11 _
     have Fc:=F4.own Kc s.stat (up1 s.cmd) lv s.left s.closed Gc (F4.lft.kept Kc (fun b cs hb e=>by
      have e:b=g:=e
      subst e
      exact Ym hb F4.blk (by decide) rfl)) F4.s0 F4.s1 (by unfold up1;omega) (by unfold up1;omega) (by decide) (by decide) (by decide)
     rw[show({s with stat:=s.stat,cmd:=up1 s.cmd,left:=s.left,closed:=s.closed}:FSt)=s2 by rw[hs']]at Fc
     have b4w:=b3w.trans (b4.mono b3w.size)
     have HM:Hid (RMid w B g gp gn y ov rv lv (.slice ta c.ts.length tc) (.slice ga c.gs.length gc) (.slice ua us.length uc) (.slice oa c.own.length oc) sn ss lim c s2 (pkC p (.slice va p.vs.length vc) (.slice aa p.n ac)) (p.v Ye) Wc):=hid ⟨Fc,((Y1.refl (fun k=>k=g) w).below b4w).trans Kc (fun i hi=> .inl hi),Kc.blk (HB3.out.below b4) (show ¬w.heap.size+1=g by omega),Kc.blk (HX3.out.below b4) (show ¬w.heap.size=g by omega),Kc.blk (HY3.out.below b4) (show ¬y=g by omega),by omega⟩
     clear cvS hS0 F4 G4' Kc Gc Fc HF3 b4w
     clear hs'
     go_wp2_with fail
     go_meet
     case rel=>exact HM.out
  case rest =>
  have Fc:=hcut.F
  have hy0:=hcut.y0
  have hgB':B≤g:=hgB
  have KB:=Y3N hcut.K hgB
  have HKB:=hid KB
  have x0:=(hcut.bf.cell 0).trans (rfl:_=some (Value.pointer (some ⟨g,0,none⟩)))
  have yi:=(hcut.bx.cell 0).trans (rfl:_=some (Value.int .u64 (p.v Ye:Nat)))
  have t0:=(hcut.bp.cell 0).trans (rfl:_=some (Value.int .i64 p.op))
  have t1:=(hcut.bp.cell 1).trans (rfl:_=some (Value.bool p.now))
  have t2:=(hcut.bp.cell 2).trans (rfl:_=some (Value.int .i64 p.flags))
  have t3:=(hcut.bp.cell 3).trans (rfl:_=some (Value.slice va p.vs.length vc))
  have t4:=(hcut.bp.cell 4).trans (rfl:_=some (Value.slice aa p.n ac))
  have t5:=(hcut.bp.cell 5).trans (rfl:_=some (Value.string (bs p.d)))
  have hyl:=hcut.bx.lt
  have hzc:=hcut.K.size
  have HM:=hid hcut
  clear hcut KB HS2 HF3 HB3 HX3 HY3 HK3 Fc F3
  have cvS: ∀ (name:List UInt8) (W:World),(W.cell? ⟨w.heap.size+1,0,none⟩=some (.int .i64 p.op)∧W.cell? ⟨w.heap.size+1,1,none⟩=some (.bool p.now)∧W.cell? ⟨w.heap.size+1,2,none⟩=some (.int .i64 p.flags)∧W.cell? ⟨w.heap.size+1,3,none⟩=some (.slice va p.vs.length vc)∧W.cell? ⟨w.heap.size+1,4,none⟩=some (.slice aa p.n ac)∧W.cell? ⟨w.heap.size+1,5,none⟩=some (.string (bs p.d))∧W.cell? ⟨w.heap.size,0,none⟩=some (.pointer (some ⟨g,0,none⟩))∧W.cell? ⟨y,0,none⟩=some (.int .u64 (p.v Ye:Nat))∧Below wc.heap.size wc W)→Hid (Calls prog 56 #[.agg #[.int .i64 p.op,.bool p.now,.int .i64 p.flags,.slice va p.vs.length vc,.slice aa p.n ac,.string (bs p.d)],.string (bs name)] W fun e w'=>e= .returned (.int .u64 (p.v name:Nat))∧w'.cell? ⟨w.heap.size+1,0,none⟩=some (.int .i64 p.op)∧w'.cell? ⟨w.heap.size+1,1,none⟩=some (.bool p.now)∧w'.cell? ⟨w.heap.size+1,2,none⟩=some (.int .i64 p.flags)∧w'.cell? ⟨w.heap.size+1,3,none⟩=some (.slice va p.vs.length vc)∧w'.cell? ⟨w.heap.size+1,4,none⟩=some (.slice aa p.n ac)∧w'.cell? ⟨w.heap.size+1,5,none⟩=some (.string (bs p.d))∧w'.cell? ⟨w.heap.size,0,none⟩=some (.pointer (some ⟨g,0,none⟩))∧w'.cell? ⟨y,0,none⟩=some (.int .u64 (p.v Ye:Nat))∧Below wc.heap.size wc w'):=by
   rintro name W ⟨i0,i1,i2,i3,i4,i5,i6,i7,iB⟩
   refine hid ((HCV.out name W (HKB.out.below iB)).out.mono ?_)
   rintro e w' ⟨he,hb⟩
   exact⟨he,(hb.cell (Yeb i0)).trans i0,(hb.cell (Yeb i1)).trans i1,(hb.cell (Yeb i2)).trans i2,(hb.cell (Yeb i3)).trans i3,(hb.cell (Yeb i4)).trans i4,(hb.cell (Yeb i5)).trans i5,(hb.cell (Yeb i6)).trans i6,(hb.cell (Yeb i7)).trans i7,iB.trans (hb.mono iB.size)⟩
  have hS0:wc.drew.cell? ⟨w.heap.size+1,0,none⟩=some (.int .i64 p.op)∧wc.drew.cell? ⟨w.heap.size+1,1,none⟩=some (.bool p.now)∧wc.drew.cell? ⟨w.heap.size+1,2,none⟩=some (.int .i64 p.flags)∧wc.drew.cell? ⟨w.heap.size+1,3,none⟩=some (.slice va p.vs.length vc)∧wc.drew.cell? ⟨w.heap.size+1,4,none⟩=some (.slice aa p.n ac)∧wc.drew.cell? ⟨w.heap.size+1,5,none⟩=some (.string (bs p.d))∧wc.drew.cell? ⟨w.heap.size,0,none⟩=some (.pointer (some ⟨g,0,none⟩))∧wc.drew.cell? ⟨y,0,none⟩=some (.int .u64 (p.v Ye:Nat))∧Below wc.heap.size wc wc.drew:=⟨t0,t1,t2,t3,t4,t5,x0,yi,(Yea _ _).drew⟩
  go_upto_region 27 with fail
  go_region_held3 (fun w'=>w'.cell? ⟨w.heap.size+1,0,none⟩=some (.int .i64 p.op)∧w'.cell? ⟨w.heap.size+1,1,none⟩=some (.bool p.now)∧w'.cell? ⟨w.heap.size+1,2,none⟩=some (.int .i64 p.flags)∧w'.cell? ⟨w.heap.size+1,3,none⟩=some (.slice va p.vs.length vc)∧w'.cell? ⟨w.heap.size+1,4,none⟩=some (.slice aa p.n ac)∧w'.cell? ⟨w.heap.size+1,5,none⟩=some (.string (bs p.d))∧w'.cell? ⟨w.heap.size,0,none⟩=some (.pointer (some ⟨g,0,none⟩))∧w'.cell? ⟨y,0,none⟩=some (.int .u64 (p.v Ye:Nat))∧Below wc.heap.size wc w')
   (first | exact hS0 | assumption | exact⟨by assumption,by assumption,by assumption,by assumption,by assumption,by assumption,by assumption,by assumption,by assumption⟩)
   (first | (go_at_call 56;refine(cvS YB _ ?_).out.mono ?_;(first | exact hS0 | assumption | exact⟨by assumption,by assumption,by assumption,by assumption,by assumption,by assumption,by assumption,by assumption,by assumption⟩);rintro e w4 ⟨rfl,c0,c1,c2,c3,c4,c5,cx,cy,b4⟩))
  have b4z:=b4.size
  have F4:=HM.out.F.below b4
  have B4:=HM.out.bp.below b4
  have s13:=(F4.blk.cell 13).trans (rfl:_=some lv)
  have f13:=F4.blk.free 13
  obtain⟨W5,hW5⟩: ∃W5,w4.setCell ⟨g,13,none⟩ (.slice none 0 0)=W5:=⟨_,rfl⟩
  have K5:Y1 (fun k=>k=g) w4 W5:=by rw[←hW5];exact(Y1.refl _ w4).set _ _ (.inl rfl)
  have G5:Blk W5 g 75 (Y14 (.pointer (some ⟨gn,0,none⟩)) (.slice ta c.ts.length tc) (.slice ga c.gs.length gc) (.slice ua us.length uc) (.slice oa c.own.length oc) sn ss lim c.name c.disc s2.stat s2.cmd (.pointer (some ⟨gp,0,none⟩)) (.slice none 0 0) s2.closed):=by rw[←hW5];exact F4.blk.set 13 _
  have F5:=F4.own K5 s2.stat s2.cmd (.slice none 0 0) [] s2.closed G5 (Y2p.nil _ _) F4.s0 F4.s1 F4.c0 F4.c1 (by decide) (by decide) (by decide)
  have B5:=K5.blk B4 (show ¬w.heap.size+1=g by omega)
  have X5:=K5.blk (HM.out.bf.below b4) (show ¬w.heap.size=g by omega)
  have Y5:=K5.blk (HM.out.bx.below b4) (show ¬y=g by omega)
  have K5w:Y1 (fun k=>k=g) w W5:=(HM.out.K.below b4).trans K5 (fun i hi=> .inl hi)
  have z5:W5.heap.size=w4.heap.size:=by rw[←hW5];simp[World.setCell]
  have x0:=(X5.cell 0).trans (rfl:_=some (Value.pointer (some ⟨g,0,none⟩)))
  have t5:=(B5.cell 5).trans (rfl:_=some (Value.string (bs p.d)))
  have s12:=(G5.cell 12).trans (rfl:_=some (Value.pointer (some ⟨gp,0,none⟩)))
  have hne:g≠gp:=Ym G5 F5.gat (by decide)
  have htl:=F5.tl
  have HF5:=hid F5;have HB5:=hid B5;have HX5:=hid X5;have HY5:=hid Y5;have HK5:=hid K5w
  clear cvS hS0 F4 B4 K5 G5 F5 B5 X5 Y5 K5w c0 c1 c2 c3 c4 c5 cx cy
  go_upto_region 34 with fail
  obtain⟨R,hR⟩: ∃R,Y18 8192 s2.text p.d mo=R:=⟨_,rfl⟩
  have HR:=hid hR
  refine YeS (n:=4).1 ?_
  refine Yk (G:=Nat×Value) (fun y=> [(169,.pointer (some ⟨g,0,none⟩)),(170,.pointer (some ⟨g,0,none⟩)),(171,.pointer (some ⟨g,12,none⟩)),(172,.pointer (some ⟨gp,0,none⟩)),(173,.pointer (some ⟨w.heap.size+1,5,none⟩)),(174,.string (bs p.d)),(175,.bool mo),(176,.tuple #[y.2,.agg #[.int .i64 (R.2.2.1:Nat),.int .i64 R.2.2.2]]),(168,.tuple #[y.2,.agg #[.int .i64 (R.2.2.1:Nat),.int .i64 R.2.2.2]]),(177,y.2),(178,.agg #[.int .i64 (R.2.2.1:Nat),.int .i64 R.2.2.2]),(18,.pointer (some ⟨y.1,0,none⟩)),(17,y.2)])
   (Y9C W5 gp s2.text R)
   (0,.slice none 0 0) (aF:= ?kC) ?kD hmx [169,170,171,172,173,174,175,176,168,177,178,18,17] (fun _=>rfl) (by kernel_rfl) (by kernel_rfl) ?kT ?kF ?kR
  case kD =>
   intro y
   simp only[Yn,YeP,Yfn,YeF,Yf4,Yf3]
   exact rfl
  case kT=>exact⟨(Y1.refl _ _).drew,by simp,HF5.out.gat,by simp,by simp⟩
  case kF =>
   as_aux_lemma =>
    refine⟨?p0,?p1,?p2,?p3,?p4,?p5,?p6,?p7,?p8,?p9,?p10,?p11,?p12,?p13,trivial⟩
    all_goals refine⟨by simp,fun d y W hC hd hdep=>⟨by first | (simp[go_sem,Oper.about];done) | (simp[go_sem,Oper.about];exact trivial),?_⟩⟩
    case p7 =>
     have hG:=hC.2.2.1
     rw[hd]at hG
     refine Yw (f:=60) (args:= #[.pointer (some ⟨gp,0,none⟩),.string (bs p.d),.bool mo]) (w':=W) (by simp[go_sem]) rfl (by simp) (Yez.2 ((YcU gp 8192 s2.text p.d mo W hG (by omega) htl (by omega)).mono ?_))
     rw[hR]
     rintro e W2 ⟨⟨v,rfl,hps,-⟩,hB,hG2⟩
     exact⟨(y.1,v),by simp[go_sem],.inr ⟨[176,168,177,17],by kernel_rfl,by simp[Y1g]⟩,hC.call (by omega) hd hG2 hB hps⟩
    case p11=>exact YL (W.heap.size,y.2) [18] (w':=W.alloc (.cells #[.int .i64 0,.int .i64 0] 38)) (by simp[go_sem]) rfl (by kernel_rfl) (by simp[Y1g]) (hC.box hd)
    case p13 =>
     simp[Region.binds]at hdep
     have h7:d 7=true:=by simp[hdep]
     have h11:d 11=true:=by simp[hdep]
     obtain⟨h1,h2⟩:=hC.2.2.2.2 h11
     have f0:=h2.free 0
     have f1:=h2.free 1
     have c0:=h2.cell 0
     have c1:=h2.cell 1
     exact YX (w':=(W.setCell ⟨y.1,0,none⟩ (.int .i64 (R.2.2.1:Int))).setCell ⟨y.1,1,none⟩ (.int .i64 R.2.2.2)) (by simp[go_sem,f0,c0,f1,c1]) rfl (hC.put (by omega) h7 h11)
    all_goals
     have q0:=hC.1.cell x0 (show ¬w.heap.size=gp by omega)
     have q1:=hC.1.cell s12 hne
     have q2:=hC.1.cell t5 (show ¬w.heap.size+1=gp by omega)
     exact Yz (by simp[go_sem,q0,q1,q2]) rfl (hC.same _ (by omega) (by omega) (by omega))
  case kR =>
   rintro d ⟨y2,v6⟩ w6 hall ⟨K6g,-,hG6,hps6,hbox⟩
   have hps6:=hps6 (hall 7 (by simp))
   obtain⟨hy2,Y6⟩:=hbox (hall 11 (by simp))
   rw[Yei (hall 13 (by simp)),Yei (hall 13 (by simp))]at Y6
   rw[Yei (hall 7 (by simp))]at hG6
   obtain⟨tx,L,kk,pl⟩:=R
   simp only at hps6 hy2 Y6 hG6
   have hgl2:=Yb9 8192 s2.text p.d mo
   rw[hR]at hgl2
   simp only at hgl2
   clear hR
   have F6:=HF5.out.gath K6g tx hG6 hgl2 (by decide) (by decide) (by decide) (by decide)
   have hgB6:=HF5.out.gpB
   have K6w:Y1 (SF g gp gn rv) w w6:=(HK5.out.mono (fun k hk=> .inl hk)).trans K6g (fun i hi=> .inl (.inr (.inl hi)))
   have K6B:Y1 (fun k=>B≤k) w w6:=(Y3N HK5.out hgB').trans K6g (fun i hi=> .inl (by have hi:i=gp:=hi;omega))
   have B6:=K6g.blk HB5.out (show ¬w.heap.size+1=gp by omega)
   have X6:=K6g.blk HX5.out (show ¬w.heap.size=gp by omega)
   have Z6:=K6g.blk HY5.out (show ¬y=gp by omega)
   have y20:=(Y6.cell 0).trans (rfl:_=some (Value.int .i64 (kk:Nat)))
   have y21:=(Y6.cell 1).trans (rfl:_=some (Value.int .i64 pl))
   have hBw:=HF5.out.gB
   have hsz6:=K6g.size
   have cis:=fun k pl W=>hid (Y1u k pl W)
   unfold YS at cis
   have HT:Hid (Y5T c s2 p mo la=if kk≠0∨mo=la then Y34 {s2 with left:= [],text:=tx} p 4 else
    if mo=true then({s2 with left:= [],text:=tx,stat:=up1 s2.stat},[⟨36,0,Y5X (p.v Ye) Y26 s2.stat s2.cmd,[]⟩])else
    if(Y84 (Y19 L) s2.rc false).1≠0 then Y34 {s2 with left:= [],text:=tx} p 4 else
    if(Yc (Y1C c L ++ (Y2T c.own (Y19 L) s2.rc false c.disc).1)).1≠0 then
     Y34 {s2 with left:= [],text:=tx,rc:=(Y2T c.own (Y19 L) s2.rc false c.disc).2} p 4 else
    Y7m {s2 with left:=Y2f (Y1H (Y1C c L ++ (Y2T c.own (Y19 L) s2.rc false c.disc).1)) (Y1N (Y2T c.own (Y19 L) s2.rc false c.disc).2).toNat,text:=tx,rc:=(Y2T c.own (Y19 L) s2.rc false c.disc).2} p):=
    hid (by unfold Y5T;rw[HR.out])
   have HF6:=hid F6;have HK6:=hid K6w;have HKB6:=hid K6B;have HB6:=hid B6;have HX6:=hid X6;have HY6:=hid Y6;have HZ6:=hid Z6
   clear F6 K6w K6B B6 X6 Y6 Z6 K6g hG6 HF5 HK5 HB5 HX5 HY5 x0 t5 s12 hbox
   gi_wp2
   go_wp2_with fail
   go_at_call 10
   refine(cis kk pl _).out.mono ?_
   rintro e w7 ⟨rfl,hb7⟩
   have F7:=HF6.out.below hb7
   have B7:=HB6.out.below hb7
   have X7:=HX6.out.below hb7
   have Y7:=HY6.out.below hb7
   have Z7:=HZ6.out.below hb7
   have HK7:=hid (HK6.out.below hb7)
   have K7B:=HKB6.out.below hb7
   have x0:=(X7.cell 0).trans (rfl:_=some (Value.pointer (some ⟨g,0,none⟩)))
   have yi:=(Z7.cell 0).trans (rfl:_=some (Value.int .u64 (p.v Ye:Nat)))
   have hsz7:=hb7.size
   have cr:=hid (Y32 p _ _ 4 (w.heap.size+1) w.heap.size F7 (HP.out w7 K7B) HE.out (by omega) (by omega) B7 x0)
   have HPS:=hid (hps6.below hb7)
   have HF7:=hid F7;have HB7:=hid B7;have HX7:=hid X7;have HY7:=hid Y7;have HZ7:=hid Z7;have HKB7:=hid K7B
   clear F7 B7 X7 Y7 Z7 K7B y20 y21 hps6 HF6 HK6 HB6 HX6 HY6 HZ6 HKB6 hb7
   by_cases hk:kk=0
   ·rw[Yel hk]
    by_cases hml:mo=la
    ·have hq:(mo == la)=true:=by rw[hml];simp
     have HX:=hid (show Y5T c s2 p mo la=Y34 {s2 with left:= [],text:=tx} p 4 by rw[HT.out,Yei (.inr hml)])
     clear hk hml
     go_wp2_with fail
     refine cr.out.mono ?_
     rintro e wz ⟨v,lv',rfl,ha,hf,hk⟩
     go_wp2
     go_ret2
     rw[HMO.out,HLA.out,HX.out]
     exact⟨_,rv,lv',rfl,ha,hf,.inl rfl,HK7.out.trans hk (fun i hi=> .inl (.inl hi))⟩
    ·have hq:(mo == la)=false:=by rw[Yen];exact hml
     have HT1:=hid (HT.out.trans (Yed (fun e=>e.elim (fun h=>h hk) hml)))
     clear hk hml
     cases mo with
     | true =>
      have HX:=hid (HT1.out.trans (Yei rfl))
      have hitt:=Y4Z HE.out
      clear cr HT HT1
      obtain⟨W8,W9,m8,m9,N9,b9,hgf⟩:=Ydm w7 (p.v Ye) 4294967295 (by omega) (by omega)
      rw[show((4294967295:Nat):Int)=4294967295 from rfl]at m9
      have F9:=HF7.out.below b9
      have cm:=hid (Y3I 36 0 [] _ _ F9 N9 (by omega) hgf (show Y1e 36=some _ by rfl) (Y9X (p.v Ye) 4294967295 s2.stat s2.cmd))
      unfold Y5A Y1a at cm
      have HK9:=hid (HK7.out.below b9)
      have hE1:(⟨#[]⟩:ByteArray)=bs []:=rfl
      have hsz9:=HKB7.out.size
      have hyl7:y<w7.heap.size:=Yeb yi
      clear N9 F9 hgf b9
      go_wp2_with fail
      refine cm.out.mono ?_
      rintro e w10 ⟨v,rfl,hsl,hK,hF⟩
      obtain⟨sa,sc,rfl,-⟩: ∃sa sc,v= .slice sa (Y5X (p.v Ye) 4294967295 s2.stat s2.cmd).length sc∧True:=by obtain⟨a,c,h,_⟩:=hsl;exact⟨a,c,h,trivial⟩
      have k11:Below w10.heap.size w10 (w10.alloc (.cells #[.int .i64 36,.bool false,.int .i64 0,.slice sa (Y5X (p.v Ye) 4294967295 s2.stat s2.cmd).length sc,.slice none 0 0,.string (bs [])] 63)):=(Yea _ _).alloc (Ye9 _) _
      have HA:=hid (Y2S (op:=36) (flags:=0) (d:= []) hsl)
      have HFF:=hid (hF.below k11)
      have HKK:=hid ((HK9.out.trans hK (fun i hi=>by rcases hi with hi | hi;exact .inl (.inl hi);exact .inr (by omega))).below k11)
      clear hsl hK hF k11 cm
      go_wp2
      go_ret2
      rw[HMO.out,HLA.out,HX.out]
      exact⟨_,rv,_,rfl,HA.out,HFF.out,.inl rfl,HKK.out⟩
     | false =>
      have hIL:inP s2 p=L:=by rw[HI.out,HR.out]
      have O:=HO.out
      have hil:=O.il
      have hse:=O.se
      rw[hIL]at hil hse
      have HSE:=hid hse
      have HIL:=hid hIL
      have hKS:(⟨#[83,101,110,100,84,97,114,103,101,116,115]⟩:ByteArray)=bs Y1s:=rfl
      have hKA:(⟨#[65,108,108]⟩:ByteArray)=bs Y1S:=rfl
      have hE1:(⟨#[]⟩:ByteArray)=bs []:=rfl
      have hB7:=HKB7.out.size
      have cT:=fun nm al (W:World) (hb:Below w7.heap.size w7 W)=>hid (Y7O ta ga ua oa tc gc uc oc c.ts c.gs us sn ss lim c.own nm al W (HC.out W (HKB7.out.below hb)) ht hgs (HV.out.all W (HKB7.out.below hb)).2.1)
      unfold Y2I at cT
      obtain⟨va6,vc6,rfl,_,_⟩:=HPS.out
      obtain⟨dc,hdc⟩: ∃dc,c.disc=dc:=⟨_,rfl⟩
      have HDC:=hid hdc
      have uu: ∀W,Below w7.heap.size w7 W→W.cell? ⟨w.heap.size,0,none⟩=some (.pointer (some ⟨g,0,none⟩))∧W.cell? ⟨g,1,none⟩=some (.slice ta c.ts.length tc)∧W.cell? ⟨g,2,none⟩=some (.slice ga c.gs.length gc)∧W.cell? ⟨g,3,none⟩=some (.slice ua us.length uc)∧
       W.cell? ⟨g,4,none⟩=some (.string (bs sn))∧W.cell? ⟨g,5,none⟩=some (.string (bs ss))∧W.cell? ⟨g,6,none⟩=some (.int .i64 lim)∧W.cell? ⟨g,7,none⟩=some (.slice oa c.own.length oc)∧W.cell? ⟨g,8,none⟩=some (.string (bs c.name))∧W.cell? ⟨g,9,none⟩=some (.bool dc):=fun W hb =>
       have h:=(HF7.out.below hb).blk
       ⟨(hb.cell (Yeb x0)).trans x0,(h.cell 1).trans rfl,(h.cell 2).trans rfl,(h.cell 3).trans rfl,(h.cell 4).trans rfl,(h.cell 5).trans rfl,(h.cell 6).trans rfl,(h.cell 7).trans rfl,(h.cell 8).trans rfl,(h.cell 9).trans (by rw[←HDC.out];rfl)⟩
      have UU:=hid uu
      clear hIL hse cr hdc uu HT
      go_wp2_with fail
      go_loopg [19,20,200] (L.length) (fun gk d r i wr=>RAskG c L w7 gk d r i wr)
      case atStart=>exact⟨0,[],[],by omega,by omega,rfl,by simp,by simp,hid (by simp),hid (by simp),YeD _ _ _ _,YeD _ _ _ _,fun q hq=>by simp[Value.ownBlock]at hq,Yea _ _⟩
      case round =>
       obtain⟨k,rk,dk,hgk,hk,rfl,hrk,hdk,Hr,Hd,hro,hdo,hap,hb⟩:=hrel
       have hB:=hb.size
       by_cases hlt:k<L.length
       ·obtain⟨_,b,o,cc,hveq,hbl,hcell⟩:=(HPS.out.below hb).open_.resolve_left (by rintro⟨rfl,_⟩;simp at hlt)
        cases hveq
        obtain⟨g0,g1⟩:=hcell k hlt
        have e1:=Y7i L k hlt
        have e2:=Y7f c L k hlt
        have hx7:=HSE.out (L.getD k ([],[])) (by rw[List.getD,Yec hlt];exact YfD hlt)
        clear hcell
        generalize L.getD k ([],[])=x at *
        obtain⟨x1,x2⟩:=x
        simp only at g0 g1 e1 e2 hx7
        have hA6:=(Yea wr.heap.size wr).alloc (Ye9 _) (.cells #[.string (bs x1),.string (bs x2)] 78)
        have b6:=hb.trans (hA6.mono hB)
        by_cases hq2:x1=Y1s
        ·have hxe:(x1 == Y1s)=true:=by rw[hq2];simp
         have hxn:(x1 !=Y1s)=false:=by rw[hq2];simp
         rw[Yei hq2]at e1 e2
         have Hr':=hid (show Y19 L=rk ++ Y19 (L.drop (k+1)) by rw[Hr.out,e1])
         have Hd':=hid (show Y1C c L=(dk ++ Y4A c x2) ++ Y1C c (L.drop (k+1)) by rw[Hd.out,e2,Yfx])
         have hro6:=Y2 hro hA6
         have hdo6:=Y2 hdo hA6
         clear e1 e2 Hr Hd hq2
         obtain⟨al,hal⟩: ∃al,(x2 == Y1S)=al:=⟨_,rfl⟩
         have hs:=sendP_eq c x2 al hal
         obtain⟨nm,hnm⟩: ∃nm,nmP c x2=nm:=⟨_,rfl⟩
         have HNM:=hid hnm
         obtain⟨cn,hcn⟩: ∃cn,c.ts.contains nm=cn:=⟨_,rfl⟩
         obtain⟨TL,hTL⟩: ∃TL,Yy c.gs nm al c.ts=TL:=⟨_,rfl⟩
         obtain⟨cd,hcd⟩: ∃cd:Nat,(if al=false∧cn=false then 8 else 0)=cd:=⟨_,rfl⟩
         obtain⟨rb,hrb⟩: ∃rb,(decide (cd≠0) || (al && !dc))=rb:=⟨_,rfl⟩
         obtain⟨SS,hSS⟩: ∃SS,Y4A c x2=SS:=⟨_,rfl⟩
         rw[hnm,hcn,HDC.out,hTL,hcd,hrb,hSS]at hs
         rw[hSS]at Hd' hx7
         have ct:=fun(W:World) (hb:Below w7.heap.size w7 W)=>(cT nm al W hb).out
         simp only[hcn,hTL,hcd]at ct
         have HS:=hid hs;have CT:=hid ct;have HCD:=hid hcd;have HRB:=hid hrb
         clear hs ct hnm hcn hTL hcd hrb hSS
         obtain⟨eb,heb⟩: ∃eb,(x2 == ([]:List UInt8))=eb:=⟨_,rfl⟩
         obtain⟨W6,hW6⟩: ∃W6,wr.alloc (.cells #[.string (bs x1),.string (bs x2)] 78)=W6:=⟨_,rfl⟩
         rw[hW6]at hA6 b6 hro6 hdo6
         have P6:Blk W6 wr.heap.size 78 #[.string (bs x1),.string (bs x2)]:=by rw[←hW6];exact Blk.new _ _ _
         obtain⟨x6,u1,u2,u3,u4',u5',u6,u7,u8,u9⟩:=UU.out W6 b6
         have q0:=(P6.cell 0).trans (rfl:_=some (Value.string (bs x1)))
         have q1:=(P6.cell 1).trans (rfl:_=some (Value.string (bs x2)))
         have hB6:=b6.size
         go_upto_if 214 with fail
         have HEB:=hid heb
         have HP6:=hid P6;have HRO:=hid hro6;have HDO:=hid hdo6;have HB6:=hid b6
         clear heb P6 hro6 hdo6 hro hdo hb hA6 hW6
         go_cut [23] (fun s wx=>s= .string (bs nm)∧W6=wx)
         case first =>
          as_aux_lemma =>
           cases eb with
           | true =>
            have hnm:c.name=nm:=by rw[←HNM.out];unfold nmP;rw[Yei (by simpa using HEB.out)]
            rw[hnm]at u8
            clear hnm
            go_wp2_with fail
            go_meet
            case rel=>exact⟨rfl,rfl⟩
           | false =>
            have hnm:x2=nm:=by rw[←HNM.out];unfold nmP;rw[Yed (by simpa using HEB.out)]
            go_wp2_with fail
            go_meet
            case rel=>exact⟨by rw[hnm],rfl⟩
         case rest =>
         obtain⟨rfl,rfl⟩:=hcut
         have cS: ∀W,(W.cell? ⟨w.heap.size,0,none⟩=some (.pointer (some ⟨g,0,none⟩))∧W.cell? ⟨g,1,none⟩=some (.slice ta c.ts.length tc)∧W.cell? ⟨g,2,none⟩=some (.slice ga c.gs.length gc)∧W.cell? ⟨g,3,none⟩=some (.slice ua us.length uc)∧W.cell? ⟨g,4,none⟩=some (.string (bs sn))∧W.cell? ⟨g,5,none⟩=some (.string (bs ss))∧W.cell? ⟨g,6,none⟩=some (.int .i64 lim)∧W.cell? ⟨g,7,none⟩=some (.slice oa c.own.length oc)∧W.cell? ⟨wr.heap.size,1,none⟩=some (.string (bs x2))∧Below W6.heap.size W6 W)→Hid (Calls prog 61 #[.agg #[.slice ta c.ts.length tc,.slice ga c.gs.length gc,.slice ua us.length uc,.string (bs sn),.string (bs ss),.int .i64 lim,.slice oa c.own.length oc],.string (bs nm),.bool al] W fun e w'=>(∃v,e= .returned (.tuple #[v,.int .i64 (cd:Nat)])∧w'.ownsRow w7.heap.size 78 2 v TL.length (Y0 TL))∧w'.cell? ⟨w.heap.size,0,none⟩=some (.pointer (some ⟨g,0,none⟩))∧w'.cell? ⟨g,1,none⟩=some (.slice ta c.ts.length tc)∧w'.cell? ⟨g,2,none⟩=some (.slice ga c.gs.length gc)∧w'.cell? ⟨g,3,none⟩=some (.slice ua us.length uc)∧w'.cell? ⟨g,4,none⟩=some (.string (bs sn))∧w'.cell? ⟨g,5,none⟩=some (.string (bs ss))∧w'.cell? ⟨g,6,none⟩=some (.int .i64 lim)∧w'.cell? ⟨g,7,none⟩=some (.slice oa c.own.length oc)∧w'.cell? ⟨wr.heap.size,1,none⟩=some (.string (bs x2))∧Below W6.heap.size W6 w'):=by
          rintro W ⟨i0,i1,i2,i3,i4,i5,i6,i7,i8,iB⟩
          refine hid ((CT.out W (HB6.out.trans (iB.mono hB6))).mono ?_)
          rintro e w' ⟨⟨v,rfl,hown⟩,hb⟩
          exact⟨⟨v,rfl,Y25 hown (by have:=iB.size;omega)⟩,(hb.cell (Yeb i0)).trans i0,(hb.cell (Yeb i1)).trans i1,(hb.cell (Yeb i2)).trans i2,(hb.cell (Yeb i3)).trans i3,(hb.cell (Yeb i4)).trans i4,(hb.cell (Yeb i5)).trans i5,(hb.cell (Yeb i6)).trans i6,(hb.cell (Yeb i7)).trans i7,(hb.cell (Yeb i8)).trans i8,iB.trans (hb.mono iB.size)⟩
         have hS0:W6.drew.cell? ⟨w.heap.size,0,none⟩=some (.pointer (some ⟨g,0,none⟩))∧W6.drew.cell? ⟨g,1,none⟩=some (.slice ta c.ts.length tc)∧W6.drew.cell? ⟨g,2,none⟩=some (.slice ga c.gs.length gc)∧W6.drew.cell? ⟨g,3,none⟩=some (.slice ua us.length uc)∧W6.drew.cell? ⟨g,4,none⟩=some (.string (bs sn))∧W6.drew.cell? ⟨g,5,none⟩=some (.string (bs ss))∧W6.drew.cell? ⟨g,6,none⟩=some (.int .i64 lim)∧W6.drew.cell? ⟨g,7,none⟩=some (.slice oa c.own.length oc)∧W6.drew.cell? ⟨wr.heap.size,1,none⟩=some (.string (bs x2))∧Below W6.heap.size W6 W6.drew:=⟨x6,u1,u2,u3,u4',u5',u6,u7,q1,(Yea _ _).drew⟩
         have hS1:=hS0.2.2.2.2.2.2.2.2.2
         go_upto_region 48 with fail
         go_cut [24,25] (fun s t wx=>wx.ownsRow w7.heap.size 78 2 s TL.length (Y0 TL)∧t= .int .i64 (cd:Nat)∧Below W6.heap.size W6 wx)
         case first =>
          as_aux_lemma =>
           go_region_held3 (fun w'=>w'.cell? ⟨w.heap.size,0,none⟩=some (.pointer (some ⟨g,0,none⟩))∧w'.cell? ⟨g,1,none⟩=some (.slice ta c.ts.length tc)∧w'.cell? ⟨g,2,none⟩=some (.slice ga c.gs.length gc)∧w'.cell? ⟨g,3,none⟩=some (.slice ua us.length uc)∧w'.cell? ⟨g,4,none⟩=some (.string (bs sn))∧w'.cell? ⟨g,5,none⟩=some (.string (bs ss))∧w'.cell? ⟨g,6,none⟩=some (.int .i64 lim)∧w'.cell? ⟨g,7,none⟩=some (.slice oa c.own.length oc)∧w'.cell? ⟨wr.heap.size,1,none⟩=some (.string (bs x2))∧Below W6.heap.size W6 w')
            (first | exact hS0 | assumption | exact⟨by assumption,by assumption,by assumption,by assumption,by assumption,by assumption,by assumption,by assumption,by assumption,by assumption⟩)
            (first | (go_at_call 61;refine(cS _ ?_).out.mono ?_;(first | exact hS0 | assumption | exact⟨by assumption,by assumption,by assumption,by assumption,by assumption,by assumption,by assumption,by assumption,by assumption,by assumption⟩);rintro e w8 ⟨⟨v8,rfl,hown8⟩,i0,i1,i2,i3,i4,i5,i6,i7,i8,hb8⟩))
           go_wp2_with fail
           go_meet
           case rel=>exact⟨hown8,rfl,hb8⟩
         case rest =>
         obtain⟨hown8,rfl,hb8⟩:=hcut
         have b8:=HB6.out.trans (hb8.mono hB6)
         obtain⟨x8,-,-,-,-,-,-,-,-,u9⟩:=UU.out wc b8
         have q1:=(hb8.cell (Yeb q1)).trans q1
         have hB8:=b8.size
         have HO8:=hid hown8;have HB8:=hid b8
         have hro8:=Y2 HRO.out hb8
         have hdo8:=Y2 HDO.out hb8
         have HRO8:=hid hro8;have HDO8:=hid hdo8
         clear hown8 b8 cS hS0 hS1 hb8 hro8 hdo8 x6 u1 u2 u3 u4' u5' u6 u7 u8 HRO HDO HB6 CT
         go_upto_region 49 with fail
         go_cut [244] (fun s wx=>s= .bool rb∧wc=wx)
         case first =>
          as_aux_lemma =>
           cases al with
           | true =>
            obtain rfl:cd=0:=by rw[←HCD.out];simp
            cases dc with
            | true =>
             obtain rfl:rb=false:=by rw[←HRB.out];rfl
             go_wp2_with fail
             go_meet
             case rel=>exact⟨rfl,rfl⟩
            | false =>
             obtain rfl:rb=true:=by rw[←HRB.out];rfl
             go_wp2_with fail
             go_meet
             case rel=>exact⟨rfl,rfl⟩
           | false =>
            cases cn with
            | true =>
             obtain rfl:cd=0:=by rw[←HCD.out];simp
             obtain rfl:rb=false:=by rw[←HRB.out];rfl
             go_wp2_with fail
             go_meet
             case rel=>exact⟨rfl,rfl⟩
            | false =>
             obtain rfl:cd=8:=by rw[←HCD.out];simp
             obtain rfl:rb=true:=by rw[←HRB.out];rfl
             go_wp2_with fail
             go_meet
             case rel=>exact⟨rfl,rfl⟩
         case rest =>
         obtain⟨rfl,rfl⟩:=hcut
         go_upto_if 244 with fail
         go_cut [24] (fun s wx=>wx.ownsRow w7.heap.size 78 2 s SS.length (Y0 SS)∧Below wc.heap.size wc wx)
         case first =>
          as_aux_lemma =>
           cases rb with
           | true =>
            obtain rfl:SS=Y44:=by rw[HS.out,Yei rfl]
            go_wp2_with fail
            go_meet
            case rel=>exact⟨Y7o (w:=wc) hB8 Y44 (by decide),(Yea _ _).alloc (Ye9 _) _⟩
           | false =>
            obtain rfl:SS=TL:=by rw[HS.out,Yed (by simp)]
            go_wp2_with fail
            go_meet
            case rel=>exact⟨HO8.out,Yea _ _⟩
         case rest =>
         obtain⟨hown9,hb9⟩:=hcut
         have b9:=HB8.out.trans (hb9.mono hB8)
         have hro9:=Y2 HRO8.out hb9
         have hdo9:=Y2 HDO8.out hb9
         have hB9:=b9.size
         go_wp2_with (at_builtin;refine Y2m rfl (.tmp 247) (.tmp 248) 27 rfl w7.heap.size 78 (.agg #[.string ⟨#[]⟩,.string ⟨#[]⟩]) 2 32 underlying27 Yv rfl (by decide) _ dk.length (Y0 dk) rfl hdo9 _ _ SS.length (Y0 SS) rfl hown9 (Y1r SS) (by unfold maxLen;omega) (by omega) (by omega) ?_;intro v' w10 hown10 hgrow10 hat10)
         have b10:Below w7.heap.size w7 w10:=Yp b9 hdo9 hgrow10 (by omega)
         have hro10:=Y24 hro9 hgrow10 (fun q hq e=>hap q hq e)
         have hap10: ∀q,u20.ownBlock=some q→v'.ownBlock≠some q:=fun q hq=>by
          rcases hat10 with h | h
          ·rw[h];exact hap q hq
          ·rw[h];intro e;have:=(hro9.lt q hq).2;have e:=Yey e;omega
         go_roundg (gk - 1)
         case rel=>exact⟨k+1,rk,dk ++ SS,by omega,by omega,by go_num,by omega,by rw[Yem];omega,Hr',Hd',hro10,by rw[Yem,YE];exact hown10,hap10,b10⟩
         case measure=>omega
        ·have hxe:(x1 == Y1s)=false:=by rw[Yen];exact hq2
         have hxn:(x1 !=Y1s)=true:=by simp[hq2]
         rw[Yed hq2]at e1 e2
         have Hr':=hid (show Y19 L=(rk ++ [(x1,x2)]) ++ Y19 (L.drop (k+1)) by rw[Hr.out,e1,Yfx];rfl)
         have Hd':=hid (show Y1C c L=dk ++ Y1C c (L.drop (k+1)) by rw[Hd.out,e2])
         have hA7:=(Yea (wr.alloc (.cells #[.string (bs x1),.string (bs x2)] 78)).heap.size (wr.alloc (.cells #[.string (bs x1),.string (bs x2)] 78))).alloc (Ye9 _) (.cells #[.string (bs x1),.string (bs x2)] 78)
         have b7:=b6.trans (hA7.mono b6.size)
         have hro7:=Y2 (Y2 hro hA6) hA7
         have hdo7:=Y2 (Y2 hdo hA6) hA7
         clear e1 e2 Hr Hd hq2 hA7
         go_wp2_with (at_builtin;refine YY rfl (.tmp 207) (.tmp 209) 27 rfl w7.heap.size 78 (.agg #[.string ⟨#[]⟩,.string ⟨#[]⟩]) 2 32 underlying27 Yv rfl (by decide) _ rk.length (Y0 rk) rfl hro7 ⟨wr.heap.size+1,0,none⟩ 1 1 (Y0 [(x1,x2)]) (by simp[go_sem]) rfl (Y60 (W:=wr.alloc (.cells #[.string (bs x1),.string (bs x2)] 78)) (by simp) (Y0 [(x1,x2)]) 78) (Y1r _) (by unfold maxLen;omega) (by omega) (by simp;omega) ?_;intro v' w8 hown8 hgrow8 hat8)
         have b8:Below w7.heap.size w7 w8:=Yp b7 hro7 hgrow8 (by simp;omega)
         have hdo8:=Y24 hdo7 hgrow8 (fun q hq e=>hap q e hq)
         have hap8: ∀q,v'.ownBlock=some q→u19.ownBlock≠some q:=fun q hq=>by
          rcases hat8 with h | h
          ·rw[h]at hq;exact hap q hq
          ·rw[h]at hq;intro e;have:=(hdo7.lt q e).2;have hq:=Yey hq;omega
         go_roundg (gk - 1)
         case rel=>exact⟨k+1,rk ++ [(x1,x2)],dk,by omega,by omega,by go_num,by rw[Yem,Yfp];omega,Yeu hdk (Nat.mul_le_mul_right _ (Nat.le_succ _)),Hr',Hd',by rw[Yem,Yfp,YE];exact hown8,hdo8,hap8,b8⟩
         case measure=>omega
       ·obtain rfl:k=L.length:=by omega
        have hd0:L.drop L.length= []:=YeX
        have er:Y19 L=rk:=by have:=Hr.out;rw[hd0]at this;simpa[Y19]using this
        have ed:Y1C c L=dk:=by have:=Hd.out;rw[hd0]at this;simpa[Y1C]using this
        have q64:L.length * 7000000≤420000000:=by omega
        have F8:=HF7.out.below hb
        have bd:=hb.drew
        have F8d:=HF7.out.below bd
        have hrod:=Y2 hro (Yea wr.heap.size wr).drew
        have hSNw: ∀q,SN gn rv q→q<w.heap.size∧B≤q:=fun q hq=>by
         rcases hq with rfl | hq
         ·exact⟨hgnl0,HF7.out.gnB⟩
         ·exact⟨(HH.out.hrv.lt q hq).2,(HH.out.hrv.lt q hq).1⟩
        have hfar:Y3h u20 rk (SN gn rv):=by
         rcases hrod.2 with ⟨_,h0⟩ | ⟨q,cap,cur,hv,hbq,_⟩
         ·exact .inl h0
         ·exact .inr ⟨q,0,_,_,hv,fun hs=>by have:=(hSNw q hs).1;omega⟩
        have K8B:Y1 (fun k=>B≤k) w wr.drew:=HKB7.out.below bd
        have hOf:=O.of_
        have hOpb:=O.pb
        have hOpl:=O.pl
        have hOo1:=O.o1
        have hOr1:=O.r1
        have hOr2:=O.r2
        have hIL:=HIL.out
        rw[hIL,er]at hOf hOo1 hOr1 hOr2
        rw[hIL,er,ed]at hOpb hOpl
        have hBg:B≤g:=hgB'
        have cN:=hid (Y6s c.own rk s2.rc false dc B gn ov rv u20 wr.drew ⟨F8d.neg,F8d.hov,F8d.hrv,F8d.sg,F8d.so.mono (fun k hk=>by
         rcases hk with hk | hk
         ·exact .inr (.inr (.inl hk))
         ·exact .inr (.inr (.inr hk)))⟩ (show B≤wr.heap.size by omega) (Yx hrod) hfar hOf (fun h0=>⟨(Y1G h0).1,fun k=>by have:=(Y1G h0).2 k;omega⟩) (by have:=O.rl;omega) hrb O.ol O.sz
         (fun w' hk=>by
           have K:=K8B.trans hk (fun i hi=> .inl (hSNw i hi).2)
           exact⟨(HV.out.all w' K).2.1,HML.out w' K⟩))
        unfold Y8D YS at cN
        rw[show Ycs c.own rk s2.rc false dc=Y2T c.own rk s2.rc false c.disc by rw[HDC.out];rfl]at cN
        have hT2:=HT1.out.trans (Yed (by simp))
        rw[er,ed]at hT2
        have hsr:(Y84 rk s2.rc false).1≠0→(Y2T c.own rk s2.rc false c.disc).2=s2.rc:=fun hof=>by unfold Y2T;rw[Yed hof]
        generalize Y2T c.own rk s2.rc false c.disc=OU at *
        generalize Y84 rk s2.rc false=OF at *
        obtain⟨OL,OR⟩:=OU
        obtain⟨o1,o2⟩:=OF
        simp only at cN hT2 hsr hOo1 hOr1 hOr2 hOpb hOpl
        have x0:=(hb.cell (Yeb x0)).trans x0
        have u0:=(F8.blk.cell 0).trans (rfl:_=some (Value.pointer (some ⟨gn,0,none⟩)))
        have u9:wr.cell? ⟨g,9,none⟩=some (.bool dc):=(F8.blk.cell 9).trans (by rw[←HDC.out];rfl)
        have Y8:=HY7.out.below hb
        have hy2l:=HY7.out.lt
        have hyl5:=HZ7.out.lt
        have hgSN: ¬SN gn rv g:=fun e=>by
         rcases e with e | e
         ·exact Ym F8.blk F8.neg (by decide) e
         ·exact Y41 F8.hrv F8.blk (by decide) e
        have hns: ¬SN gn rv w.heap.size:=fun e=>by have:=(hSNw _ e).1;omega
        have hny: ¬SN gn rv y2:=fun e=>by have:=(hSNw _ e).1;omega
        have hHT2:=hid hT2;have HSR:=hid hsr;have HSN:=hid hSNw;have HF8:=hid F8;have HY8:=hid Y8;have HPB:=hid hOpb;have HPL:=hid hOpl;have HR2:=hid hOr2;have HBb:=hid hb;have HDo:=hid hdo;have HF8d:=hid F8d
        have HRb:=hid hrb
        clear F8 bd F8d hrod hfar K8B hOf hOpb hOpl hOr2 hT2 hsr hSNw Y8 er ed hd0 hIL Hr Hd hro hdo hap hb hlt hrb cT
        go_upto_region 53 with fail
        refine YeS (n:=4).1 ?_
        refine Yk (G:=Value) (fun v=> [(252,.pointer (some ⟨g,0,none⟩)),(253,.pointer (some ⟨g,0,none⟩)),(254,.pointer (some ⟨g,0,none⟩)),(255,.pointer (some ⟨gn,0,none⟩)),(256,u20),(257,.pointer (some ⟨g,0,none⟩)),(258,.pointer (some ⟨g,0,none⟩)),(259,.pointer (some ⟨g,9,none⟩)),(260,.bool dc),(261,.tuple #[v,.agg #[.int .i64 (o1:Nat),.int .i64 o2]]),(251,.tuple #[v,.agg #[.int .i64 (o1:Nat),.int .i64 o2]]),(262,v),(263,.agg #[.int .i64 (o1:Nat),.int .i64 o2]),(26,v)])
         (Y3Z (fun _=>True) (fun k=>SN gn rv k∨k=y2) wr 9 14 (fun W=>W=wr.drew)
           (fun v W=>(∃rv6,W.ownsRow wr.heap.size 78 2 v OL.length (Y0 OL)∧Y4y W B gn ov rv6 c.own OR∧(rv6.ownBlock=rv.ownBlock∨ ∃q,rv6.ownBlock=some q∧wr.heap.size≤q))∧Y1 (SN gn rv) wr.drew W)
           (fun v W=> ∃W6,((∃rv6,W6.ownsRow wr.heap.size 78 2 v OL.length (Y0 OL)∧Y4y W6 B gn ov rv6 c.own OR∧(rv6.ownBlock=rv.ownBlock∨ ∃q,rv6.ownBlock=some q∧wr.heap.size≤q))∧Y1 (SN gn rv) wr.drew W6)∧Y1 (fun k=>k=y2) W6 W∧Blk W y2 38 #[.int .i64 (o1:Nat),.int .i64 o2]))
         (.slice none 0 0) (aF:= ?kG) ?kH hmx [252,253,254,255,256,257,258,259,260,261,251,262,263,26] (fun _=>rfl) (by kernel_rfl) (by kernel_rfl) ?kU ?kV ?kW
        case kH =>
         intro y
         simp only[Yn,YeP,Yfn,YeF,Yf4,Yf3]
         exact rfl
        case kU=>exact⟨trivial,(Y1.refl _ _).drew,by simp,fun _=>rfl,by simp,by simp⟩
        case kV =>
         as_aux_lemma =>
          refine⟨?r0,?r1,?r2,?r3,?r4,?r5,?r6,?r7,?r8,?r9,?r10,?r11,?r12,?r13,?r14,trivial⟩
          all_goals refine⟨by simp,fun d y W hC hd hdep=>⟨by first | (simp[go_sem,Oper.about];done) | (simp[go_sem,Oper.about];exact trivial),?_⟩⟩
          case r9 =>
           have e:=hC.2.2.2.1 hd
           subst e
           refine Yw (f:=12) (args:= #[.pointer (some ⟨gn,0,none⟩),u20,.bool false,.bool dc]) (w':=wr.drew) (by simp[go_sem]) rfl (by simp) (Yez.2 (cN.out.mono ?_))
           rintro e W2 ⟨⟨v,rv6,rfl,hov,hN,hrv⟩,hK⟩
           exact⟨v,by simp[go_sem],.inr ⟨[261,251,262,26],by kernel_rfl,by simp[Y1g]⟩,hC.call trivial (by omega) hd ((Y1.refl _ wr).drew.trans (hK.mono fun k hk=> .inl hk) (fun i hi=> .inl hi)) ⟨⟨rv6,hov,hN,hrv⟩,hK⟩⟩
          case r14 =>
           simp[Region.binds]at hdep
           have h9:d 9=true:=by simp[hdep]
           have hP:=hC.2.2.2.2.1 h9 hd
           have Y:=hP.2.blk (HY8.out.below (Yea _ _).drew) hny
           have f0:=Y.free 0
           have f1:=Y.free 1
           have c0:=Y.cell 0
           have c1:=Y.cell 1
           exact YX (w':=(W.setCell ⟨y2,0,none⟩ (.int .i64 (o1:Nat))).setCell ⟨y2,1,none⟩ (.int .i64 o2)) (by simp[go_sem,f0,c0,f1,c1]) rfl (hC.put trivial (by omega) h9 hd (fun hP=>⟨(hC.2.1.set ⟨y2,0,none⟩ _ (.inl (.inr rfl))).set ⟨y2,1,none⟩ _ (.inl (.inr rfl)),W,hP,((Y1.refl (fun k=>k=y2) W).set ⟨y2,0,none⟩ _ (.inl rfl)).set ⟨y2,1,none⟩ _ (.inl rfl),(Y.set 0 _).set 1 _⟩))
          all_goals
           have q0:=hC.2.1.cell x0 (fun e=>e.elim hns (fun e=>by omega))
           have q1:=hC.2.1.cell u0 (fun e=>e.elim hgSN (fun e=>by omega))
           have q2:=hC.2.1.cell u9 (fun e=>e.elim hgSN (fun e=>by omega))
           exact Yz (by simp[go_sem,q0,q1,q2]) rfl (hC.same _ trivial (by omega) (by omega))
        case kW =>
         rintro d v6 w8 hall ⟨-,K8,-,-,-,hPC⟩
         obtain⟨W6,⟨⟨rv6,hov6,hN6,hrv6⟩,hK6⟩,hK8,Y8⟩:=hPC (hall 14 (by simp))
         have hSNw:=HSN.out
         have hy2g: ¬g=y2:=by omega
         have YW:=hK6.blk (HY8.out.below (Yea _ _).drew) hny
         have hu19: ∀q,u19.ownBlock=some q→w7.heap.size≤q:=fun q hq=>(HDo.out.lt q hq).1
         have F6:=HF8d.out.neg' hK6 rv6 OR hN6.blk hN6.hov hN6.hrv hN6.sg hN6.so (by decide) (by decide) (by decide) (by decide) (by decide)
         have hr6: ∀q,rv6.ownBlock=some q→q≠y2∧(q<w.heap.size∨wr.heap.size≤q):=fun q hq=>by
          rcases hrv6 with h1 | ⟨q',h1,h2⟩
          ·have:=(hSNw q (.inr (h1 ▸hq))).1
           exact⟨by omega,.inl this⟩
          ·rw[h1]at hq
           have:=Yey hq
           exact⟨by omega,.inr (by omega)⟩
         have F8:=F6.kept hK8 hy2g (show ¬gp=y2 by omega) (show ¬gn=y2 by omega) (fun q hq=>(hr6 q hq).1) (Y6u hN6.hov YW) (fun b cs hb e=>by
          have e:b=y2:=e
          subst e
          exact Ym hb YW (by decide) rfl)
         have hrw:rv6.ownBlock=rv.ownBlock∨ ∃q,rv6.ownBlock=some q∧w.heap.size≤q:=by
          rcases hrv6 with h1 | ⟨q,h1,h2⟩
          ·exact .inl h1
          ·exact .inr ⟨q,h1,by omega⟩
         have hov8:=Y2F hK8 hov6 (fun q hq e=>by have:=(hov6.lt q hq).1;have e:q=y2:=e;omega)
         have hdo8:=Y2F hK8 (Y2F hK6 (Y2 HDo.out (Yea _ _).drew) (fun q hq e=>by have:=hu19 q hq;have:=(hSNw q e).1;omega)) (fun q hq e=>by have:=hu19 q hq;have e:q=y2:=e;omega)
         have K8w:Y1 (SF g gp gn rv) w w8:=((HK7.out.below HBb.out).drew.trans hK6 (fun i hi=> .inl (hi.elim (fun h=> .inr (.inr (.inl h))) (fun h=> .inr (.inr (.inr h)))))).trans hK8 (fun i hi=> .inr (by have hi:i=y2:=hi;omega))
         have K8B:Y1 (fun k=>B≤k) w w8:=((HKB7.out.below HBb.out).drew.trans hK6 (fun i hi=> .inl (hSNw i hi).2)).trans hK8 (fun i hi=> .inr (by have hi:i=y2:=hi;omega))
         have hn1: ¬SN gn rv (w.heap.size+1):=fun e=>by have:=(hSNw _ e).1;omega
         have hn2: ¬SN gn rv y:=fun e=>by have:=(hSNw _ e).1;omega
         have B8:=hK8.blk (hK6.blk ((HB7.out.below HBb.out).below (Yea _ _).drew) hn1) (show ¬w.heap.size+1=y2 by omega)
         have X8:=hK8.blk (hK6.blk ((HX7.out.below HBb.out).below (Yea _ _).drew) hns) (show ¬w.heap.size=y2 by omega)
         have Z8:=hK8.blk (hK6.blk ((HZ7.out.below HBb.out).below (Yea _ _).drew) hn2) (show ¬y=y2 by omega)
         have y20:=(Y8.cell 0).trans (rfl:_=some (Value.int .i64 (o1:Nat)))
         have y21:=(Y8.cell 1).trans (rfl:_=some (Value.int .i64 o2))
         have hz8:=K8.size
         have HF:=hid F8;have HB:=hid B8;have HX8:=hid X8;have HZ:=hid Z8;have HY:=hid Y8;have HKw:=hid K8w;have HKB:=hid K8B;have HOv:=hid hov8;have HDo8:=hid hdo8;have HRW:=hid hrw;have HR6:=hid hr6
         clear F6 F8 hrw hov8 hdo8 hov6 K8w K8B B8 X8 Z8 Y8 YW hN6 hrv6 hK6 hK8 hPC K8 hr6 hSNw x0 u0 u9 hn1 hn2 hns hny hgSN
         gi_wp2
         go_wp2_with fail
         go_at_call 10
         refine(cis o1 o2 _).out.mono ?_
         rintro e w9 ⟨rfl,hb9⟩
         have F9:=HF.out.below hb9
         have X9:=HX8.out.below hb9
         have x0:=(X9.cell 0).trans (rfl:_=some (Value.pointer (some ⟨g,0,none⟩)))
         have hz9:=hb9.size
         by_cases hof:o1=0
         ·rw[Yel hof]
          have hT3:=hHT2.out.trans (Yed (fun e=>e hof))
          have HT3:=hid hT3
          have hdo9:=Y2 HDo8.out hb9
          have hov9:=Y2 HOv.out hb9
          have hdk2:dk.length≤420000000:=Yeu hdk q64
          have Y9:=HY.out.below hb9
          have HF9:=hid F9;have HY9:=hid Y9;have HB9:=hid hb9;have HX9:=hid X9
          clear hof hT3 F9 Y9 hb9 X9 y20 y21
          go_wp2_with (at_builtin;refine Y2m rfl (.tmp 272) (.tmp 273) 27 rfl w7.heap.size 78 (.agg #[.string ⟨#[]⟩,.string ⟨#[]⟩]) 2 32 underlying27 Yv rfl (by decide) _ dk.length (Y0 dk) rfl hdo9 _ v6 OL.length (Y0 OL) rfl hov9 (Y1r OL) (by unfold maxLen;omega) (by omega) (by omega) ?_;intro v10 w10 hown10 hgrow10 hat10)
          have K10:Y1 (fun k=>u19.ownBlock=some k) w9 w10:=(Y1.refl _ w9).only hgrow10 (fun q hq=> .inl hq)
          have hz10:=K10.size
          have F10:=HF9.out.kept K10 (fun e=>by have:=hu19 _ e;omega) (fun e=>by have:=hu19 _ e;omega) (fun e=>by have:=hu19 _ e;omega) (fun q hq e=>by
           have h1:=(HDo.out.lt q e).2
           have h2:=hu19 q e
           rcases(HR6.out q hq).2 with h3 | h3
           ·omega
           ·omega) (Y3h.mono (Y3h.new HF7.out.hov (S:=fun k=>w7.heap.size≤k) (fun k hk=>hk)) (fun k hk=>hu19 k hk)) (fun b cs hb e=>Y6y hdo9 hb (by decide) e)
          have Y10:=K10.blk HY9.out (fun e=>by have:=hu19 _ e;omega)
          have X10:=K10.blk HX9.out (fun e=>by have:=hu19 _ e;omega)
          rw[←Yem,←YE]at hown10
          have cP:=hid (YbE v10 (dk ++ OL) w10 (Yx hown10) HPB.out)
          unfold Y4O YS at cP
          have hPL:=HPL.out
          obtain⟨PR,hPR⟩: ∃PR,Yc (dk ++ OL)=PR:=⟨_,rfl⟩
          have HT4:=HT3.out
          rw[hPR]at cP hPL HT4
          obtain⟨pr1,pr2⟩:=PR
          simp only at cP hPL HT4
          have HT4:=hid HT4
          obtain⟨TX,hTX⟩: ∃TX,(if pr1=0 then Y1H (dk ++ OL)else [])=TX:=⟨_,rfl⟩
          rw[hTX]at cP
          have HTX:=hid hTX
          clear hTX
          have HPL2:=hid hPL
          have HF10:=hid F10;have HK10:=hid K10;have HY10:=hid Y10;have HX10:=hid X10
          clear hPR hPL F10 K10 Y10 X10 hgrow10 hown10 hat10 hdo9 hov9 x0
          go_wp2_with fail
          go_at_call 62
          refine cP.out.mono ?_
          rintro e w11 ⟨rfl,hb11⟩
          have Y11:=HY10.out.below hb11
          have hz11:=hb11.size
          have f0:=Y11.free 0
          have f1:=Y11.free 1
          have c0:=(Y11.cell 0).trans (rfl:_=some (Value.int .i64 (o1:Nat)))
          have c1:=(Y11.cell 1).trans (rfl:_=some (Value.int .i64 o2))
          obtain⟨W12,hW12⟩: ∃W12,(w11.setCell ⟨y2,0,none⟩ (.int .i64 (pr1:Nat))).setCell ⟨y2,1,none⟩ (.int .i64 pr2)=W12:=⟨_,rfl⟩
          have Y12:Blk W12 y2 38 #[.int .i64 (pr1:Nat),.int .i64 pr2]:=by rw[←hW12];exact(Y11.set 0 _).set 1 _
          have K12:Y1 (fun k=>k=y2) w11 W12:=by rw[←hW12];exact((Y1.refl (fun k=>k=y2) w11).set ⟨y2,0,none⟩ _ (.inl rfl)).set ⟨y2,1,none⟩ _ (.inl rfl)
          have hz12:=K12.size
          have F11:=HF10.out.below hb11
          have F12:=F11.kept K12 hy2g (show ¬gp=y2 by omega) (show ¬gn=y2 by omega) (fun q hq=>(HR6.out q hq).1) (Y6u F11.hov Y11) (fun b cs hb e=>by
           have e:b=y2:=e
           subst e
           exact Ym hb Y11 (by decide) rfl)
          have X12:=K12.blk (HX10.out.below hb11) (show ¬w.heap.size=y2 by omega)
          have d0:=(Y12.cell 0).trans (rfl:_=some (Value.int .i64 (pr1:Nat)))
          have d1:=(Y12.cell 1).trans (rfl:_=some (Value.int .i64 pr2))
          have K12w:Y1 (fun k=>u19.ownBlock=some k∨k=y2) w9 W12:=((HK10.out.mono (fun k hk=> .inl hk)).below hb11).trans K12 (fun i hi=> .inl (.inr hi))
          have HF12:=hid F12;have HX12:=hid X12;have HK12:=hid K12w
          clear F11 F12 X12 Y11 Y12 K12 hb11 K12w
          go_wp2_with fail
          go_at_call 10
          refine(cis pr1 pr2 _).out.mono ?_
          rintro e w13 ⟨rfl,hb13⟩
          have F13:=HF12.out.below hb13
          have X13:=HX12.out.below hb13
          have x0:=(X13.cell 0).trans (rfl:_=some (Value.pointer (some ⟨g,0,none⟩)))
          have hz13:=hb13.size
          have K13:Y1 (fun k=>w7.heap.size≤k∨k=y2) w8 w13:=(((Y1.refl _ w8).below HB9.out).trans HK12.out (fun i hi=> .inl (hi.imp (hu19 i) id))).below hb13
          have K13w:=HKw.out.trans K13 (fun i hi=> .inr (by rcases hi with hi | hi<;>omega))
          have K13B:=HKB.out.trans K13 (fun i hi=> .inr (by rcases hi with hi | hi<;>omega))
          have B13:=K13.blk HB.out (show ¬(w7.heap.size≤w.heap.size+1∨w.heap.size+1=y2) by omega)
          have Z13:=K13.blk HZ.out (show ¬(w7.heap.size≤y∨y=y2) by omega)
          by_cases hpr:pr1=0
          ·rw[Yel hpr]
           have hpl:=HPL2.out hpr
           have hTB:Y1H (dk ++ OL)=TX:=by rw[←HTX.out,Yei hpr]
           have hT5:=HT4.out.trans (Yed (fun e=>e hpr))
           rw[hTB]at hpl hT5
           have hM:=Y3C OR
           obtain⟨m,hm⟩: ∃m:Nat,Y1N OR=(m:Int):=⟨(Y1N OR).toNat,by omega⟩
           rw[hm]at hT5 hM
           rw[show((m:Nat):Int).toNat=m from YfL m]at hT5
           have HX:=hid hT5
           have cm: ∀W,Below w13.heap.size w13 W→Calls prog 57 #[.pointer (some ⟨g,0,none⟩)] W (fun e w'=>e= .returned (.int .i64 (m:Nat))∧Below W.heap.size W w'):=fun W hb=>by
            have V:=HV.out.all W (K13B.below hb)
            have h:Calls prog 57 #[.pointer (some ⟨g,0,none⟩)] W (fun e w'=>e= .returned (.int .i64 (Y1N OR))∧Below W.heap.size W w'):=Y6p (F13.below hb) hOr1 HR2.out V.1 V.2.2.1 V.2.1
            rw[hm]at h
            exact h
           have CM:=hid cm
           have cs:=fun W=>hid (YbD TX m W (by omega) (by omega) (by omega))
           have s13:=(F13.blk.cell 13).trans (rfl:_=some (Value.slice none 0 0))
           have HF13:=hid F13;have HX13:=hid X13;have HZ13:=hid Z13;have HK13:=hid K13w
           have hgw13:=F13.blk.lt
           clear hpr hTB hT5 hm cm F13 X13 K13 K13w K13B B13 Z13 d0 d1
           go_upto_region 59 with fail
           refine YeS (n:=4).1 ?_
           refine Yk (G:=Option Addr×Nat) (fun z=> [(286,.pointer (some ⟨g,0,none⟩)),(287,.string (bs TX)),(288,.pointer (some ⟨g,0,none⟩)),(289,.int .i64 (m:Nat)),(290,.tuple #[.slice z.1 (YI m TX) z.2,.int .i64 0]),(285,.tuple #[.slice z.1 (YI m TX) z.2,.int .i64 0]),(291,.slice z.1 (YI m TX) z.2),(292,.int .i64 0),(293,.pointer (some ⟨g,0,none⟩)),(294,.pointer (some ⟨g,13,none⟩))])
            (Y3Z (fun d=>d 4=true→d 3=true) (fun k=>k=g) w13 4 10 (fun W=>Below w13.heap.size w13 W)
              (fun z W=>Below w13.heap.size w13 W∧W.ownsRow w13.heap.size 9 1 (.slice z.1 (YI m TX) z.2) (YI m TX) (Y3Y m TX))
              (fun z W=> ∃W1,(Below w13.heap.size w13 W1∧W1.ownsRow w13.heap.size 9 1 (.slice z.1 (YI m TX) z.2) (YI m TX) (Y3Y m TX))∧Y1 (fun k=>k=g) W1 W∧Blk W g 75 (Y14 (.pointer (some ⟨gn,0,none⟩)) (.slice ta c.ts.length tc) (.slice ga c.gs.length gc) (.slice ua us.length uc) (.slice oa c.own.length oc) sn ss lim c.name c.disc s2.stat s2.cmd (.pointer (some ⟨gp,0,none⟩)) (.slice z.1 (YI m TX) z.2) s2.closed)))
            (none,0) (aF:= ?kI) ?kJ hmx [286,287,288,289,290,285,291,292,293,294] (fun _=>rfl) (by kernel_rfl) (by kernel_rfl) ?kX ?kY ?kZ
           case kJ =>
            intro y
            simp only[Yn,YeP,Yfn,YeF,Yf4,Yf3]
            exact rfl
           case kX=>exact⟨fun e=>by simp at e,(Y1.refl _ _).drew,by simp,fun _=>(Yea _ _).drew,by simp,by simp⟩
           case kY =>
            as_aux_lemma =>
             refine⟨?v0,?v1,?v2,?v3,?v4,?v5,?v6,?v7,?v8,?v9,?v10,trivial⟩
             all_goals refine⟨by simp,fun d z W hC hd hdep=>⟨by first | (simp[go_sem,Oper.about];done) | (simp[go_sem,Oper.about];exact trivial),?_⟩⟩
             case v3 =>
              have h4:d 4=false:=by
               cases hq:d 4 with
               | false=>rfl
               | true=>rw[hC.1 hq]at hd;cases hd
              have hA:=hC.2.2.2.1 h4
              refine Yw (f:=57) (args:= #[.pointer (some ⟨g,0,none⟩)]) (w':=W) (by simp[go_sem]) rfl (by simp) (Yez.2 ((CM.out W hA).mono ?_))
              rintro e W2 ⟨rfl,hb⟩
              exact⟨z,by simp[go_sem],.inl rfl,hC.mid 3 (n43 hC.1 3 (by omega)) (by omega) (by omega) h4 (hC.2.1.below hb) (hA.trans (hb.mono hA.size))⟩
             case v4 =>
              simp[Region.binds]at hdep
              have h3:d 3=true:=by simp[hdep]
              have hA:=hC.2.2.2.1 hd
              refine Yw (f:=63) (args:= #[.string (bs TX),.int .i64 (m:Nat)]) (w':=W) (by simp[go_sem]) rfl (by simp) (Yez.2 ((cs W).out.mono ?_))
              rintro e W2 ⟨⟨v,rfl,hown⟩,hb⟩
              obtain⟨A,cap,rfl⟩:=Y1I hown
              exact⟨(A,cap),by simp[go_sem],.inr ⟨[290,285,291],by kernel_rfl,by simp[Y1g]⟩,hC.call (fun _=>by rw[Y4 d (show 4≠3 by omega)];exact h3) (by omega) hd (hC.2.1.below hb) ⟨hA.trans (hb.mono hA.size),Y25 hown hA.size⟩⟩
             case v10 =>
              simp[Region.binds]at hdep
              have h4:d 4=true:=by simp[hdep]
              have hP:=hC.2.2.2.2.1 h4 hd
              have G:=(HF13.out.below hP.1).blk
              have f13:=G.free 13
              have c13:=(G.cell 13).trans (rfl:_=some (Value.slice none 0 0))
              exact YX (w':=W.setCell ⟨g,13,none⟩ (.slice z.1 (YI m TX) z.2)) (by simp[go_sem,f13,c13]) rfl (hC.put (n43 hC.1 10 (by omega)) (by omega) h4 hd (fun hP=>⟨hC.2.1.set ⟨g,13,none⟩ _ (.inl rfl),W,hP,(Y1.refl (fun k=>k=g) W).set ⟨g,13,none⟩ _ (.inl rfl),G.set 13 _⟩))
             all_goals
              have q0:=hC.2.1.cell x0 (show ¬w.heap.size=g by omega)
              exact Yz (by simp[go_sem,q0]) rfl (hC.same _ (n43 hC.1 _ (by omega)) (by omega) (by omega))
           case kZ =>
            rintro d ⟨A,cap⟩ w14 hall ⟨-,-,-,-,-,hPC⟩
            obtain⟨W1,⟨hb1,hown1⟩,hK1,G14⟩:=hPC (hall 10 (by simp))
            simp only at hown1 G14
            have F1:=HF13.out.below hb1
            have hpn:YI m TX=(Y2f TX m).length:=by unfold Y2f;simp
            have hpc:Y3Y m TX=strCells (Y2f TX m):=by unfold Y3Y Y2f strCells Y3B;rw[List.map_map];rfl
            have hp0:YI m TX≠0:=by
             unfold YI
             split
             ·omega
             ·rename_i h0
              have h1:m≤TX.length+m - 1:=by omega
              have:=Nat.div_pos h1 (by omega:0<m)
              omega
            rw[hpc]at hown1
            have L14:Y2p w14 B (.slice A (YI m TX) cap) (Y2f TX m):=(Yb3 (Y25 hown1 (show B≤w13.heap.size by omega)) hpn hp0).kept hK1 (fun b cs hb e=>by
             have e:b=g:=e
             subst e
             exact Ym hb F1.blk (by decide) rfl)
            have F14:=F1.own hK1 s2.stat s2.cmd (.slice A (YI m TX) cap) (Y2f TX m) s2.closed G14 L14 F1.s0 F1.s1 F1.c0 F1.c1 (by decide) (by decide) (by decide)
            have X14:=hK1.blk (HX13.out.below hb1) (show ¬w.heap.size=g by omega)
            have Z14:=hK1.blk (HZ13.out.below hb1) (show ¬y=g by omega)
            have HK14:=hid ((HK13.out.below hb1).trans hK1 (fun i hi=> .inl (.inl hi)))
            obtain⟨x,r,hxr⟩: ∃x r,Y2f TX m=x :: r:=by
             cases hl:Y2f TX m with
             | nil=>rw[hl]at hpn;exact absurd hpn hp0
             | cons x r=>exact⟨x,r,rfl⟩
            have x0:=(X14.cell 0).trans (rfl:_=some (Value.pointer (some ⟨g,0,none⟩)))
            have yi:=(Z14.cell 0).trans (rfl:_=some (Value.int .u64 (p.v Ye:Nat)))
            have cp:=hid (Y7h p x r w.heap.size y hxr F14 HE.out x0 yi (by omega) (by omega))
            clear hpn hpc hp0 hown1 L14 F14 F1 X14 Z14 hxr hb1 hK1 G14 hPC
            gi_wp2
            go_wp2_with fail
            refine cp.out.mono ?_
            rintro e wz ⟨v,lv',rfl,ha,hf,hk⟩
            go_wp2
            go_ret2
            rw[HMO.out,HLA.out,HX.out]
            exact⟨_,rv6,lv',rfl,ha,hf,HRW.out,HK14.out.trans hk (fun i hi=> .inl (.inl hi))⟩
          ·rw[Yeh hpr]
           have HX:=hid (HT4.out.trans (Yei hpr))
           have cr:=hid (Y32 p _ _ 4 (w.heap.size+1) w.heap.size F13 (HP.out w13 K13B) HE.out (by omega) (by omega) B13 x0)
           have HK13:=hid K13w
           clear hpr F13 X13 K13 K13w K13B B13 Z13
           go_wp2_with fail
           refine cr.out.mono ?_
           rintro e wz ⟨v,lv',rfl,ha,hf,hk⟩
           go_wp2
           go_ret2
           rw[HMO.out,HLA.out,HX.out]
           exact⟨_,rv6,lv',rfl,ha,hf,HRW.out,HK13.out.trans hk (fun i hi=> .inl (.inl hi))⟩
         ·rw[Yeh hof]
          have HX:=hid (hHT2.out.trans (Yei hof))
          have hsr:=HSR.out hof
          subst hsr
          have cr:=hid (Y32 p _ _ 4 (w.heap.size+1) w.heap.size F9 (HP.out w9 (HKB.out.below hb9)) HE.out (by omega) (by omega) (HB.out.below hb9) x0)
          have HK9:=hid (HKw.out.below hb9)
          clear hof F9 X9 hb9
          go_wp2_with fail
          refine cr.out.mono ?_
          rintro e wz ⟨v,lv',rfl,ha,hf,hk⟩
          go_wp2
          go_ret2
          rw[HMO.out,HLA.out,HX.out]
          exact⟨_,rv6,lv',rfl,ha,hf,HRW.out,HK9.out.trans hk (fun i hi=> .inl (.inl hi))⟩
   ·rw[Yeh hk]
    have HX:=hid (show Y5T c s2 p mo la=Y34 {s2 with left:= [],text:=tx} p 4 by rw[HT.out,Yei (.inl hk)])
    clear hk
    go_wp2_with fail
    refine cr.out.mono ?_
    rintro e wz ⟨v,lv',rfl,ha,hf,hk⟩
    go_wp2
    go_ret2
    rw[HMO.out,HLA.out,HX.out]
    exact⟨_,rv,lv',rfl,ha,hf,.inl rfl,HK7.out.trans hk (fun i hi=> .inl (.inl hi))⟩
end
end
section
open Go.Proofs.Tryz
open Go Go.RowKit
section
variable {w:World}{B g gp gn:Nat}{ov rv lv:Value}{sn ss:List UInt8}{lim:Int}{c:FCf}{s:FSt}{us:PL}{ta ga ua oa:Option Addr}{tc gc uc oc:Nat}
theorem YcP(p:PK)(v av:Value)(h:YO w B g gp gn ov rv lv (.slice ta c.ts.length tc) (.slice ga c.gs.length gc) (.slice ua us.length uc) (.slice oa c.own.length oc) sn ss lim c s)
 (hC:Y4f B w c us sn ss lim (.slice ta c.ts.length tc) (.slice ga c.gs.length gc) (.slice ua us.length uc) (.slice oa c.own.length oc)) (ht:c.ts.length≤2500) (hgs:c.gs.length≤2500) (hO:Ye4 c s p) (hp:Y1Y B w p v av) (hV:Env B w)
 (hML: ∀W,Y1 (fun k=>B≤k) w W→ML W) (hrb: ∀k,(s.rc.getD k ([],[])).1.length≤9223372036854775807):
 Calls prog 16 #[.pointer (some ⟨g,0,none⟩),pkV p v av] w fun e w'=>Y1b 75 143 84 w B g gp gn ov rv (.slice ta c.ts.length tc) (.slice ga c.gs.length gc) (.slice ua us.length uc) (.slice oa c.own.length oc) sn ss lim c (Yu c s p) (fun k=> .int .i64 (k:Nat)) e w':=by
 by_cases hx:s.closed=true∨Y2L p.op p.now p.flags p.vs p.n p.I p.d≠0
 ·exact Ya1 p v av h hp hV hx
 refine Z4w ?_;intro hcl hE;clear hx;have hr:s.rc.length≤1000000:=by have:=hO.ask.rl;exact Z7
 have htx:p.op=4→p.v YB=Y26→ ∀s2,((p.now=true∧s2=s)∨(p.now=false∧(p.v Y1d:Int)=s.cmd∧s2= {s with cmd:=up1 s.cmd}))→Yu c s p=((Y5T c s2 p (Y1V p.flags) (Y6G p.flags)).1,(Y5T c s2 p (Y1V p.flags) (Y6G p.flags)).2,0):=by
  intro hop htt s2 hs2;have hq:Y1v p=false:=by unfold Y1v;exact Z1d
  unfold Yu doP Ybl;rw[Yed Z2E,Yed (fun e=>e hE),Yed Z7];rcases hs2 with ⟨hn,rfl⟩ | ⟨hn,hm,rfl⟩
  ·rw[Yed Z3i,Yed Z3i,Yed Z7,Yei hop,Yed (fun e=>e htt)]
  ·rw[Yed (fun e=>e.2 hm),Yei ⟨hn,hq⟩,Yed Z7,Yei hop,Yed (fun e=>e htt)]
 by_cases h0:p.op=0
 ·cases hn:p.now with
  | true =>
   by_cases hi:p.v Ye=Y26
   ·exact Y6m p v av h hp hV hcl hE h0 hn hi
   ·exact Y7S p v av h hp hV hcl hE hr hO.rl h0 hn hi
  | false =>
   by_cases hm:(p.v Y1d:Int)=s.cmd
   ·by_cases hi:p.v Ye=Y26
    ·exact Y6n p v av h hp hV hcl hE h0 hn hm hi
    ·exact Y7V p v av h hp hV hcl hE hr hO.rl h0 hn hm hi
   ·exact Y7X p v av h hp hV hcl hE h0 hn hm
 by_cases h4:p.op=4
 ·cases hn:p.now with
  | true =>
   by_cases htt:p.v YB=Y26
   ·rw[htx h4 htt s (.inl ⟨hn,rfl⟩)];exact Y8X p v av h hp hV hcl hE hC ht hgs s (.inl ⟨hn,rfl⟩) hO.ask h4 htt hML hrb
   ·exact Y7R p v av h hp hV hcl hE h4 hn htt
  | false =>
   by_cases hm:(p.v Y1d:Int)=s.cmd
   ·by_cases htt:p.v YB=Y26
    ·rw[htx h4 htt _ (.inr ⟨hn,hm,rfl⟩)];exact Y8X p v av h hp hV hcl hE hC ht hgs _ (.inr ⟨hn,hm,rfl⟩) ⟨hO.ask.rl,hO.ask.ol,hO.ask.sz,hO.ask.il,hO.ask.of_,hO.ask.r1,hO.ask.r2,hO.ask.o1,hO.ask.se,hO.ask.pb,hO.ask.pl⟩ h4 htt hML hrb
    ·exact Y7U p v av h hp hV hcl hE h4 hn hm htt
   ·exact Y7Z p v av h hp hV hcl hE h4 hn hm
 by_cases h6:p.op=6
 ·cases hn:p.now with
  | true=>exact Y7T p v av h hp hV hcl hE h6 hn
  | false =>
   by_cases hm:(p.v Y1d:Int)=s.cmd
   ·exact Y7W p v av h hp hV hcl hE h6 hn hm
   ·exact Y7Y p v av h hp hV hcl hE h6 hn hm
 exact Ya0 p v av h hp hV hcl hE h0 h4 h6
end
end
end Go.Proofs.YtfadikchijkcfaaGreatDoor
