/- A session behind a login, by the document: a PDU is taken in. -/
import Derived.Test.YtfadikchijkcfaaGreatDoorParsePure
import Derived.Test.YtfadikchijkcfaaGreatDoorFullNopR
import Derived.Test.YtfadikchijkcfaaGreatDoorFullTake
import Derived.Test.YtfadikchijkcfaaGreatDoorSame
import Derived.Test.YtfadikchijkcfaaGreatDoorFullTakeR2
import Derived.Deep.RegionHeld3
set_option linter.unusedVariables false
set_option linter.unusedSectionVars false
set_option linter.unusedSimpArgs false
set_option maxRecDepth 100000
set_option maxHeartbeats 2000000
namespace Go.Proofs.YtfadikchijkcfaaGreatDoor
section
open Go.Proofs.Tryz
open Go Go.RowKit
theorem Z2n{P:Prop}(h:P:=by
 rintro e W2 ⟨va',rfl,hsl,hK,hF⟩
 have hsl':=hsl
 obtain⟨qa,qc,hq,_⟩:=hsl'
 have hK':Y1 (fun k=>k=g) w4 W2:=((Y1.refl _ w4).below b4).trans hK (fun i hi=>by rcases hi with hi | hi;exact .inl hi;exact .inr Z7)
 exact Z1f):P:=h
theorem Z3D{P:Prop}(h:P:=by
 exact⟨⟨(Y1.refl _ w4).drew,fun _=>(Yea _ _).drew,by simp,by simp,by simp,by simp,by simp,by simp,by simp,by simp⟩,by simp[N9]⟩):P:=h
section
variable {w:World}{B g gp gn:Nat}{ov rv lv ta ga ua oa:Value}{sn ss:List UInt8}{lim:Int}{c:FCf}{s:FSt}
theorem Y7S(p:PK)(v av:Value)(h:YO w B g gp gn ov rv lv ta ga ua oa sn ss lim c s)(hp:Y1Y B w p v av)(hV:Env B w)(hcl:s.closed=false)(hE:Y2L p.op p.now p.flags p.vs p.n p.I p.d=0)(hr:s.rc.length≤1000000)(hrl: ∀k,(s.rc.getD k ([],[])).2.length≤100000)(hop:p.op=0)(hn:p.now=true)(hi:p.v Ye≠Y26):
 Calls prog 16 #[.pointer (some ⟨g,0,none⟩),pkV p v av] w fun e w'=>Y1b 75 143 84 w B g gp gn ov rv ta ga ua oa sn ss lim c (Yu c s p) (fun k=> .int .i64 (k:Nat)) e w':=by
 refine Z4y ?_;intro hp0;obtain⟨⟨va,vc,rfl⟩,aa,ac,rfl⟩:=hp0.forms;refine Z0 ?_;intro W1 b1 B1 X1 hgl hgB z1 K1 V1 hp1 hpd G1 x0 t0 t1 t2 t3 t4 t5 hW1 hmm hmf cR s14 HH HP HV HB1 HX1 o0 o1 HE CV;unfold pkV Y1a at CV ⊢
 have hT:Yu c s p=({s with stat:=up1 s.stat},[⟨32,128,Y5Z (p.v Y2P) (p.v Ye) s.stat s.cmd,p.d.take (Y1N s.rc).toNat⟩],0):=by
  unfold Yu doP nopP;rw[Yed Z2E,Yed (fun e=>e hE),Yed Z7,Yed Z3i,Yed Z3i,Yei hop,Yed hi]
 have HT:=hid hT;have n0:(p.op !=0)=false:=Z1d;have e0:(p.op == 0)=true:=Z1d;have nn:(!p.now)=false:=by rw[hn];rfl
 have ei:((p.v Ye:Int) == 4294967295)=false:=by
  rw[Yen];intro e;exact hi (by unfold Y26;exact Z7)
 have hlun:=Yd9 hE;have hitt:=Y4Z hE;clear hp hp0 hp1 V1 hT hV h B1 X1 G1 hE hcl hpd hop hn hi;go_enter func16,ntmps16;go_wp2_with fail;go_at_call 52;refine cR.out.mono ?_;rintro e w2 ⟨rfl,hb2⟩;refine Z1 ?_;intro b2 z2 x0 t0 t1 t2 t3 t4 t5 TK HB2 HX2 hmx;go_wp2_with fail;refine YeS (n:=4).1 ?_;refine Yk (G:=Nat) (fun y=> [(38,.pointer (some ⟨w.heap.size+1,0,none⟩)),(39,.pointer (some ⟨w.heap.size+1,0,none⟩)),(40,.int .i64 p.op),(41,.agg #[.int .i64 p.op,.bool p.now,.int .i64 p.flags,.slice va p.vs.length vc,.slice aa p.n ac,.string (bs p.d)]),(42,.int .u64 (p.v Ye:Nat)),(9,.pointer (some ⟨y,0,none⟩)),(8,.int .i64 p.op)])
  (Y2o w2 (p.v Ye))
  0 (aF:= ?kA) ?kB hmx [38,39,40,41,42,9,8] (fun _=>rfl) (by kernel_rfl) (by kernel_rfl) ?kS ?kE ?kQ
 case kB =>
  exact Z3J
 case kS=>exact Z1R
 case kE =>
  exact Z2
 case kQ =>
  rintro d y w3 hall ⟨b3,-,hbox⟩;refine Z9 ?_;intro hy Y3 yi b3w B3 X3 x0 F3 t0 t1 t2 t3 t4 t5 hz3 HY3 HB3 HX3;gi_wp2;refine Z4V ?_;intro HK3;have V3:=HV.out.all w3 ((Y1.refl _ w).below b3w);have cm:=hid (Y6p F3 hr hrl V3.1 V3.2.2.1 V3.2.1);have hM:=Y3C s.rc;obtain⟨m,hm⟩: ∃m:Nat,Y1N s.rc=(m:Int):=⟨(Y1N s.rc).toNat,by omega⟩;rw[hm]at cm hM;have HF3:=hid F3;have HDT:=hid (show p.d.take (Y1N s.rc).toNat=p.d.take m by rw[hm];rfl)
  have hyl:y<w3.heap.size:=Yeb yi;have HCV:=hid CV;clear F3 B3 X3 Y3 V3 CV hm;go_wp2_with fail;refine cm.out.mono ?_;rintro e w4 ⟨rfl,hb4⟩;have b4w:=b3w.trans (hb4.mono b3w.size);have hB4:=HB3.out.below hb4;have F4:=HF3.out.below hb4
  have tk4: ∀W,Y1 (fun k=>k=g) w4 W→W.cell? ⟨w.heap.size+1,0,none⟩=some (.int .i64 p.op)∧W.cell? ⟨w.heap.size+1,1,none⟩=some (.bool p.now)∧W.cell? ⟨w.heap.size+1,2,none⟩=some (.int .i64 p.flags)∧W.cell? ⟨w.heap.size+1,3,none⟩=some (.slice va p.vs.length vc)∧W.cell? ⟨w.heap.size+1,4,none⟩=some (.slice aa p.n ac)∧W.cell? ⟨w.heap.size+1,5,none⟩=some (.string (bs p.d))∧W.cell? ⟨w.heap.size,0,none⟩=some (.pointer (some ⟨g,0,none⟩))∧W.cell? ⟨y,0,none⟩=some (.int .u64 (p.v Ye:Nat)):=by
   intro W hK;have Bq:=hK.blk hB4 (show ¬w.heap.size+1=g from Z7);have Xq:=hK.blk (HX3.out.below hb4) (show ¬w.heap.size=g from Z7);have Yq:=hK.blk (HY3.out.below hb4) (show ¬y=g from Z7);exact Z38
  obtain⟨t0,t1,t2,t3,t4,t5,x0,yi⟩:=tk4 w4 (Y1.refl _ _);have TK4:=hid tk4;have CVY:=hid (fun(W:World) (hb:Below w4.heap.size w4 W)=>HCV.out Y2P W ((Y1.refl _ w).below (b4w.trans (hb.mono b4w.size))));have F4:=hid F4;have hsz4:=hb4.size;have HB4w:=hid b4w;clear tk4 hB4 HCV HF3 cm hb4 HY3 HX3 HB3;generalize p.v Ye=X at *;generalize p.v Y2P=Y at *;by_cases hx:m<p.d.length
  ·have hD:p.d.take m=p.d.take m:=rfl;have h0m:(0:Int)≤(m:Int):=Z7;have hmn:(m:Int)≤(p.d.length:Int):=Z7;go_wp2_with fail;refine YeS (n:=4).1 ?_;refine Yk (G:=Nat×Value×Nat) (fun y'=> [(102,.pointer (some ⟨g,0,none⟩)),(103,.string (bs (p.d.take m))),(104,.map (some y'.1)),(105,.agg #[.int .i64 p.op,.bool p.now,.int .i64 p.flags,.slice va p.vs.length vc,.slice aa p.n ac,.string (bs p.d)]),(106,.int .u64 (Y:Int)),(107,.int .u64 (X:Int)),(108,.map (some y'.1)),(109,Y1a 32 false 128 y'.2.1 (.slice none 0 0) (p.d.take m)),(110,.slice (some ⟨y'.2.2,0,none⟩) 1 1),(4,.slice (some ⟨y'.2.2,0,none⟩) 1 1),(5,.int .i64 0)])
    (fun d y' W=>Y28 g w4 Y X (fun va W=>(∃a cc,va= .slice a 6 cc)∧Y9K W va 6 (Y5Z Y X s.stat s.cmd)∧YO W B g gp gn ov rv lv ta ga ua oa sn ss lim c {s with stat:=up1 s.stat}) (fun rB W=>Ycu W (.slice (some ⟨rB,0,none⟩) 1 1) [⟨32,128,Y5Z Y X s.stat s.cmd,(p.d.take m)⟩]) d y' W∧N9 d)
    (0,undef,0) (aF:= ?kAu) ?kBu hmx [102,103,104,105,106,107,108,109,110,4,5] (fun _=>rfl) (by kernel_rfl) (by kernel_rfl) ?kSu ?kEu ?kQu
   case kBu =>
    intro y';exact Za
   case kSu=>exact Z3D
   case kEu =>
    refine⟨?u0,?u1,?u2,?u3,?u4,?u5,?u6,?u7,?u8,?u9,?u10,?u11,?u12,?u13,trivial⟩
    all_goals refine⟨by simp,fun d y' W hC hd hdep=>⟨by first | (simp[go_sem,Oper.about];done) | (simp[go_sem,Oper.about];exact trivial),?_⟩⟩
    case u2 =>
     exact Z1b
    case u4 =>
     exact Zq
    case u5 =>
     exact Zs
    case u7 =>
     exact Zu
    case u8 =>
     exact Zr
    case u9 =>
     exact ZO
    case u10 =>
     refine Z25 ?_;clear hdep;intro hdep d5 d7 d8 d2 b4 hy hN;refine Yw (f:=58) (args:= #[.pointer (some ⟨g,0,none⟩),.int .i64 32,.int .i64 128,.string (bs (p.d.take m)),.map (some y'.1)]) (w':=W) Z3U rfl Z2t (Yez.2 ((Y3I 32 128 (p.d.take m) _ _ (F4.out.below b4) hN Z3n (fun m=>by exact Z2A) (show Y1e 32=some _ by rfl) (Y7P Y X s.stat s.cmd)).mono ?_));exact Z2n
    case u11 =>
     simp[Region.binds]at hdep;have d10:d 10=true:=Z2x;obtain⟨⟨qa,qc,hq⟩,hsl,hF⟩:=hC.1.2.2.2.2.2.2.2.2.1 d10;have hA:=Y2S (op:=32) (flags:=128) (d:=(p.d.take m)) (vs:=Y5Z Y X s.stat s.cmd) hsl;exact Z1S
    all_goals
     obtain⟨q0,q1,q2,q3,q4,q5,q6,q7⟩:=TK4.out W hC.1.1;exact Yz Z4I rfl ⟨hC.1.same _ Z7 Z7 Z7 Z7 Z7 Z7 Z7,hC.2.also _ Z7⟩
   case kQu =>
    rintro d ⟨y1,y2,y3⟩ W5 hall ⟨hC,-⟩;refine Z34 ?_;intro hP8 hP9;have hK:=((Y1.refl (SF g gp gn rv) w).below HB4w.out).trans hC.1 (fun i hi=> .inl (.inl hi));exact Z42
  ·have hD:p.d.take m=p.d:=Yfc Z7;have HD:=hid hD;clear hD;go_wp2_with fail;refine YeS (n:=4).1 ?_;refine Yk (G:=Nat×Value×Nat) (fun y'=> [(102,.pointer (some ⟨g,0,none⟩)),(103,.string (bs p.d)),(104,.map (some y'.1)),(105,.agg #[.int .i64 p.op,.bool p.now,.int .i64 p.flags,.slice va p.vs.length vc,.slice aa p.n ac,.string (bs p.d)]),(106,.int .u64 (Y:Int)),(107,.int .u64 (X:Int)),(108,.map (some y'.1)),(109,Y1a 32 false 128 y'.2.1 (.slice none 0 0) p.d),(110,.slice (some ⟨y'.2.2,0,none⟩) 1 1),(4,.slice (some ⟨y'.2.2,0,none⟩) 1 1),(5,.int .i64 0)])
    (fun d y' W=>Y28 g w4 Y X (fun va W=>(∃a cc,va= .slice a 6 cc)∧Y9K W va 6 (Y5Z Y X s.stat s.cmd)∧YO W B g gp gn ov rv lv ta ga ua oa sn ss lim c {s with stat:=up1 s.stat}) (fun rB W=>Ycu W (.slice (some ⟨rB,0,none⟩) 1 1) [⟨32,128,Y5Z Y X s.stat s.cmd,p.d⟩]) d y' W∧N9 d)
    (0,undef,0) (aF:= ?kAv) ?kBv hmx [102,103,104,105,106,107,108,109,110,4,5] (fun _=>rfl) (by kernel_rfl) (by kernel_rfl) ?kSv ?kEv ?kQv
   case kBv =>
    intro y';exact Za
   case kSv=>exact Z3D
   case kEv =>
    refine⟨?v0,?v1,?v2,?v3,?v4,?v5,?v6,?v7,?v8,?v9,?v10,?v11,?v12,?v13,trivial⟩
    all_goals refine⟨by simp,fun d y' W hC hd hdep=>⟨by first | (simp[go_sem,Oper.about];done) | (simp[go_sem,Oper.about];exact trivial),?_⟩⟩
    case v2 =>
     exact Z1b
    case v4 =>
     exact Zq
    case v5 =>
     exact Zs
    case v7 =>
     exact Zu
    case v8 =>
     exact Zr
    case v9 =>
     exact ZO
    case v10 =>
     refine Z25 ?_;clear hdep;intro hdep d5 d7 d8 d2 b4 hy hN;refine Yw (f:=58) (args:= #[.pointer (some ⟨g,0,none⟩),.int .i64 32,.int .i64 128,.string (bs p.d),.map (some y'.1)]) (w':=W) Z3U rfl Z2t (Yez.2 ((Y3I 32 128 p.d _ _ (F4.out.below b4) hN Z3n (fun m=>by exact Z2A) (show Y1e 32=some _ by rfl) (Y7P Y X s.stat s.cmd)).mono ?_));exact Z2n
    case v11 =>
     simp[Region.binds]at hdep;have d10:d 10=true:=Z2x;obtain⟨⟨qa,qc,hq⟩,hsl,hF⟩:=hC.1.2.2.2.2.2.2.2.2.1 d10;have hA:=Y2S (op:=32) (flags:=128) (d:=p.d) (vs:=Y5Z Y X s.stat s.cmd) hsl;exact Z1W
    all_goals
     obtain⟨q0,q1,q2,q3,q4,q5,q6,q7⟩:=TK4.out W hC.1.1;exact Yz Z4I rfl ⟨hC.1.same _ Z7 Z7 Z7 Z7 Z7 Z7 Z7,hC.2.also _ Z7⟩
   case kQv =>
    rintro d ⟨y1,y2,y3⟩ W5 hall ⟨hC,-⟩;refine Z34 ?_;intro hP8 hP9;have hK:=((Y1.refl (SF g gp gn rv) w).below HB4w.out).trans hC.1 (fun i hi=> .inl (.inl hi));exact Z3V
end
end
section
open Go.Proofs.Tryz
open Go Go.RowKit
section
variable {w:World}{B g gp gn:Nat}{ov rv lv ta ga ua oa:Value}{sn ss:List UInt8}{lim:Int}{c:FCf}{s:FSt}
theorem Y7R(p:PK)(v av:Value)(h:YO w B g gp gn ov rv lv ta ga ua oa sn ss lim c s)(hp:Y1Y B w p v av)(hV:Env B w)(hcl:s.closed=false)(hE:Y2L p.op p.now p.flags p.vs p.n p.I p.d=0)(hop:p.op=4)(hn:p.now=true)(ht:p.v YB≠Y26):
 Calls prog 16 #[.pointer (some ⟨g,0,none⟩),pkV p v av] w fun e w'=>Y1b 75 143 84 w B g gp gn ov rv ta ga ua oa sn ss lim c (Yu c s p) (fun k=> .int .i64 (k:Nat)) e w':=by
 obtain⟨la,lc,hlv⟩: ∃a c,lv= .slice a s.left.length c:=by obtain⟨a,c,h1,_⟩:=h.lft;exact⟨a,c,h1⟩
 subst hlv;refine Z4y ?_;intro hp0;obtain⟨⟨va,vc,rfl⟩,aa,ac,rfl⟩:=hp0.forms;refine Z0 ?_;intro W1 b1 B1 X1 hgl hgB z1 K1 V1 hp1 hpd G1 x0 t0 t1 t2 t3 t4 t5 hW1 hmm hmf cR s14 HH HP HV HB1 HX1 o0 o1 HE CV;unfold pkV Y1a at CV ⊢
 have hT:Yu c s p=((if p.v YB≠1∨s.left= []∨p.d≠ []∨Y1V p.flags=true then Y34 s p 4 else Y7m s p).1,(if p.v YB≠1∨s.left= []∨p.d≠ []∨Y1V p.flags=true then Y34 s p 4 else Y7m s p).2,0):=by
  unfold Yu doP Ybl;rw[Yed Z2E,Yed (fun e=>e hE),Yed Z7,Yed Z3i,Yed Z3i,Yed Z7,Yei hop,Yei ht]
 refine Z2d ?_;intro HT n0 e0;have n4:(p.op !=4)=false:=Z1d;have e6:(p.op == 6)=false:=Z1d;have nn:(!p.now)=false:=by rw[hn];rfl
 obtain⟨fl0,fl1⟩:=Y5Y hE
 have et:((p.v YB:Int) !=4294967295)=true:=by
  exact Z3P
 clear hp hp0 hp1 V1 hT hV h B1 X1 G1 hE hcl hpd hop hn ht;go_enter func16,ntmps16;go_wp2_with fail;go_at_call 52;refine cR.out.mono ?_;rintro e w2 ⟨rfl,hb2⟩;refine Z1 ?_;intro b2 z2 x0 t0 t1 t2 t3 t4 t5 TK HB2 HX2 hmx;go_wp2_with fail;refine YeS (n:=4).1 ?_;refine Yk (G:=Nat) (fun y=> [(38,.pointer (some ⟨w.heap.size+1,0,none⟩)),(39,.pointer (some ⟨w.heap.size+1,0,none⟩)),(40,.int .i64 p.op),(41,.agg #[.int .i64 p.op,.bool p.now,.int .i64 p.flags,.slice va p.vs.length vc,.slice aa p.n ac,.string (bs p.d)]),(42,.int .u64 (p.v Ye:Nat)),(9,.pointer (some ⟨y,0,none⟩)),(8,.int .i64 p.op)])
  (Y2o w2 (p.v Ye))
  0 (aF:= ?kA) ?kB hmx [38,39,40,41,42,9,8] (fun _=>rfl) (by kernel_rfl) (by kernel_rfl) ?kS ?kE ?kQ
 case kB =>
  exact Z3J
 case kS=>exact Z1R
 case kE =>
  exact Z2
 case kQ =>
  rintro d y w3 hall ⟨b3,-,hbox⟩;refine Z9 ?_;intro hy Y3 yi b3w B3 X3 x0 F3 t0 t1 t2 t3 t4 t5 hz3 HY3 HB3 HX3;gi_wp2;refine Z4V ?_;intro HK3;have HF3:=hid F3
  have cvS: ∀ (name:List UInt8) (W:World),(RS9 w g y p va vc aa ac w3 W)→Hid (Calls prog 56 #[.agg #[.int .i64 p.op,.bool p.now,.int .i64 p.flags,.slice va p.vs.length vc,.slice aa p.n ac,.string (bs p.d)],.string (bs name)] W fun e w'=>e= .returned (.int .u64 (p.v name:Nat))∧RS9 w g y p va vc aa ac w3 w'):=by
   rintro name W ⟨i0,i1,i2,i3,i4,i5,i6,i7,iB⟩;refine hid ((CV name W ((Y1.refl _ w).below (b3w.trans (iB.mono b3w.size)))).out.mono ?_);exact Z1G
  have hS0:RS9 w g y p va vc aa ac w3 w3.drew:=⟨t0,t1,t2,t3,t4,t5,x0,yi,(Yea _ _).drew⟩;have hyl:y<w3.heap.size:=Yeb yi;clear F3 B3 X3 Y3 CV;go_upto_region 27 with fail;go_region_held3 (fun w'=>RS9 w g y p va vc aa ac w3 w')
   (first | exact hS0 | assumption | exact⟨by assumption,by assumption,by assumption,by assumption,by assumption,by assumption,by assumption,by assumption,by assumption⟩)
   (first | (go_at_call 56;refine(cvS YB _ ?_).out.mono ?_;(first | exact hS0 | assumption | exact⟨by assumption,by assumption,by assumption,by assumption,by assumption,by assumption,by assumption,by assumption,by assumption⟩);rintro e w4 ⟨rfl,c0,c1,c2,c3,c4,c5,cx,cy,b4⟩))
  have F4:=HF3.out.below b4;have b4w:=b3w.trans (b4.mono b3w.size);have s13:=(F4.blk.cell 13).trans (rfl:_=some (Value.slice la s.left.length lc));have cr:=hid (Y32 p _ _ 4 (w.heap.size+1) w.heap.size F4 (HP.out w4 ((Y1.refl _ w).below b4w)) HE.out Z7 Z7 (HB3.out.below b4) cx);have HK4:=hid (HK3.out.below b4);clear cvS hS0 b4 b4w;by_cases q1:p.v YB=1
  ·have r1:((p.v YB:Int) !=1)=false:=by rw[q1];rfl
   by_cases q2:s.left.length=0
   ·have r2:((s.left.length:Int) == 0)=true:=by rw[q2];rfl
    have HX:=hid (show(p.v YB≠1∨s.left= []∨p.d≠ []∨Y1V p.flags=true)from .inr (.inl (YeK q2)));clear q1 q2 F4;exact Zl
   ·have r2:((s.left.length:Int) == 0)=false:=Z1r;have hne:s.left≠ []:=fun e=>q2 (by rw[e];rfl)
    by_cases q3:0<p.d.length
    ·have HX:=hid (show(p.v YB≠1∨s.left= []∨p.d≠ []∨Y1V p.flags=true)from .inr (.inr (.inl (fun e=>by rw[e]at q3;exact absurd q3 Z2t))));clear q1 q2 F4 hne;exact Zl
    ·have hd0:p.d= []:=YeK Z7;by_cases q4:p.flags / 64 % 2=1
     ·have r4:(p.flags / 64 % 2 == 1)=true:=by rw[q4];rfl
      have HX:=hid (show(p.v YB≠1∨s.left= []∨p.d≠ []∨Y1V p.flags=true)from .inr (.inr (.inr (by unfold Y1V;rw[Yel q4]))));clear q1 q2 F4 hne hd0 q4;exact Zl
     ·have r4:(p.flags / 64 % 2 == 1)=false:=by rw[Yen];exact q4
      have HX:=hid (show ¬(p.v YB≠1∨s.left= []∨p.d≠ []∨Y1V p.flags=true)from fun e=>by
       rcases e with e | e | e | e
       ·exact e q1
       ·exact hne e
       ·exact e hd0
       ·unfold Y1V at e;exact q4 (YeE e))
      obtain⟨x,r,hxr⟩: ∃x r,s.left=x :: r:=by
       cases h:s.left with
       | nil=>exact absurd h hne
       | cons x r=>exact⟨x,r,rfl⟩
      exact Z1Q
  ·have r1:((p.v YB:Int) !=1)=true:=Z3M;have HX:=hid (show(p.v YB≠1∨s.left= []∨p.d≠ []∨Y1V p.flags=true)from .inl q1);clear q1 F4;exact Zl
end
end
section
open Go.Proofs.Tryz
open Go Go.RowKit
theorem Z3{P:Prop}(h:P:=by
 refine Z1T ?_;intro nn hwx
 have hme:((p.v Y1d:Int) !=s.cmd)=true:=by simp[hm]
 clear hp hp0 hp1 V1 hT hV h B1 X1 G1 hE hcl hpd hop hn hm
 go_enter func16,ntmps16
 go_wp2_with fail
 go_at_call 52
 refine cR.out.mono ?_
 rintro e w2 ⟨rfl,hb2⟩
 refine Z1 ?_
 intro b2 z2 x0 t0 t1 t2 t3 t4 t5 TK HB2 HX2 hmx
 go_wp2_with fail
 refine YeS (n:=4).1 ?_
 refine Yk (G:=Nat) (fun y=> [(38,.pointer (some ⟨w.heap.size+1,0,none⟩)),(39,.pointer (some ⟨w.heap.size+1,0,none⟩)),(40,.int .i64 p.op),(41,.agg #[.int .i64 p.op,.bool p.now,.int .i64 p.flags,.slice va p.vs.length vc,.slice aa p.n ac,.string (bs p.d)]),(42,.int .u64 (p.v Ye:Nat)),(9,.pointer (some ⟨y,0,none⟩)),(8,.int .i64 p.op)])
  (Y2o w2 (p.v Ye))
  0 (aF:= ?kA) ?kB hmx [38,39,40,41,42,9,8] (fun _=>rfl) (by kernel_rfl) (by kernel_rfl) ?kS ?kE ?kQ
 case kB =>
  exact Z3J
 case kS=>exact Z1R
 case kE =>
  exact Z2
 case kQ =>
  rintro d y w3 hall ⟨b3,-,hbox⟩
  refine Z9 ?_;intro hy Y3 yi b3w B3 X3 x0 F3 t0 t1 t2 t3 t4 t5 hz3 HY3 HB3 HX3
  gi_wp2
  refine ZA ?_;intro HK3 HF3 s11 cvS hS0 hyl HCV
  clear F3 B3 X3 Y3 CV
  go_upto_region 12 with fail
  go_region_held3 (fun w'=>RS10 w g y p va vc aa ac s.cmd w3 w')
   (first | exact hS0 | assumption | exact⟨by assumption,by assumption,by assumption,by assumption,by assumption,by assumption,by assumption,by assumption,by assumption,by assumption⟩)
   (first | (go_at_call 56;refine(cvS Y1d _ ?_).out.mono ?_;(first | exact hS0 | assumption | exact⟨by assumption,by assumption,by assumption,by assumption,by assumption,by assumption,by assumption,by assumption,by assumption,by assumption⟩);rintro e w4 ⟨rfl,c0,c1,c2,c3,c4,c5,cx,cy,c11,b4⟩))
  have F4:=HF3.out.below b4
  have b4w:=b3w.trans (b4.mono b3w.size)
  have cr:=hid (Y32 p _ _ 4 (w.heap.size+1) w.heap.size F4 (HP.out w4 ((Y1.refl _ w).below b4w)) HE.out Z7 Z7 (HB3.out.below b4) cx)
  have HK4:=hid (HK3.out.below b4)
  clear cvS hS0 b4 b4w F4
  go_wp2_with fail
  refine cr.out.mono ?_
  rintro e wz ⟨v,lv',rfl,ha,hf,hk⟩
  go_wp2
  go_ret2
  rw[HT.out]
  exact Z3y):P:=h
theorem Z2F{P Q:Prop}(k:Q)(h:Q→P:=by
 have hT:Yu c s p=((Y34 s p 4).1,(Y34 s p 4).2,0):=by
  exact Z4Q
 refine fun z_=>?_
 revert hT
 exact z_):P:=h k
theorem Z4Q{P:Prop}(h:P:=by
 unfold Yu
 rw[Yed (by rw[hcl];exact Z2t),Yed (fun e=>e hE),Yed Z7,Yei ⟨hn,hm⟩]):P:=h
section
variable {w:World}{B g gp gn:Nat}{ov rv lv ta ga ua oa:Value}{sn ss:List UInt8}{lim:Int}{c:FCf}{s:FSt}
theorem Y7X(p:PK)(v av:Value)(h:YO w B g gp gn ov rv lv ta ga ua oa sn ss lim c s)(hp:Y1Y B w p v av)(hV:Env B w)(hcl:s.closed=false)(hE:Y2L p.op p.now p.flags p.vs p.n p.I p.d=0)(hop:p.op=0)(hn:p.now=false)(hm:(p.v Y1d:Int)≠s.cmd):
 Calls prog 16 #[.pointer (some ⟨g,0,none⟩),pkV p v av] w fun e w'=>Y1b 75 143 84 w B g gp gn ov rv ta ga ua oa sn ss lim c (Yu c s p) (fun k=> .int .i64 (k:Nat)) e w':=by
 refine Z4y ?_;intro hp0;obtain⟨⟨va,vc,rfl⟩,aa,ac,rfl⟩:=hp0.forms;refine Z0 ?_;intro W1 b1 B1 X1 hgl hgB z1 K1 V1 hp1 hpd G1 x0 t0 t1 t2 t3 t4 t5 hW1 hmm hmf cR s14 HH HP HV HB1 HX1 o0 o1 HE CV;unfold pkV Y1a at CV ⊢;refine Z2F ?_;intro hT;have HT:=hid hT;refine Z2z ?_;intro n0 e0 n4 n6 e6;exact Z3
theorem Y7Y(p:PK)(v av:Value)(h:YO w B g gp gn ov rv lv ta ga ua oa sn ss lim c s)(hp:Y1Y B w p v av)(hV:Env B w)(hcl:s.closed=false)(hE:Y2L p.op p.now p.flags p.vs p.n p.I p.d=0)(hop:p.op=6)(hn:p.now=false)(hm:(p.v Y1d:Int)≠s.cmd):
 Calls prog 16 #[.pointer (some ⟨g,0,none⟩),pkV p v av] w fun e w'=>Y1b 75 143 84 w B g gp gn ov rv ta ga ua oa sn ss lim c (Yu c s p) (fun k=> .int .i64 (k:Nat)) e w':=by
 refine Z4y ?_;intro hp0;obtain⟨⟨va,vc,rfl⟩,aa,ac,rfl⟩:=hp0.forms;refine Z0 ?_;intro W1 b1 B1 X1 hgl hgB z1 K1 V1 hp1 hpd G1 x0 t0 t1 t2 t3 t4 t5 hW1 hmm hmf cR s14 HH HP HV HB1 HX1 o0 o1 HE CV;unfold pkV Y1a at CV ⊢;refine Z2F ?_;intro hT;refine Z4H ?_;intro HT n0 e0 n4 n6 e6;exact Z3
theorem Y7Z(p:PK)(v av:Value)(h:YO w B g gp gn ov rv lv ta ga ua oa sn ss lim c s)(hp:Y1Y B w p v av)(hV:Env B w)(hcl:s.closed=false)(hE:Y2L p.op p.now p.flags p.vs p.n p.I p.d=0)(hop:p.op=4)(hn:p.now=false)(hm:(p.v Y1d:Int)≠s.cmd):
 Calls prog 16 #[.pointer (some ⟨g,0,none⟩),pkV p v av] w fun e w'=>Y1b 75 143 84 w B g gp gn ov rv ta ga ua oa sn ss lim c (Yu c s p) (fun k=> .int .i64 (k:Nat)) e w':=by
 refine Z4y ?_;intro hp0;obtain⟨⟨va,vc,rfl⟩,aa,ac,rfl⟩:=hp0.forms;refine Z0 ?_;intro W1 b1 B1 X1 hgl hgB z1 K1 V1 hp1 hpd G1 x0 t0 t1 t2 t3 t4 t5 hW1 hmm hmf cR s14 HH HP HV HB1 HX1 o0 o1 HE CV;unfold pkV Y1a at CV ⊢;refine Z2F ?_;intro hT;refine Z2d ?_;intro HT n0 e0;have n4:(p.op !=4)=false:=Z1d;have n6:(p.op !=6)=true:=Z1d;have e6:(p.op == 6)=false:=Z1d;exact Z3
theorem Y6n(p:PK)(v av:Value)(h:YO w B g gp gn ov rv lv ta ga ua oa sn ss lim c s)(hp:Y1Y B w p v av)(hV:Env B w)(hcl:s.closed=false)(hE:Y2L p.op p.now p.flags p.vs p.n p.I p.d=0)(hop:p.op=0)(hn:p.now=false)(hm:(p.v Y1d:Int)=s.cmd)(hi:p.v Ye=Y26):
 Calls prog 16 #[.pointer (some ⟨g,0,none⟩),pkV p v av] w fun e w'=>Y1b 75 143 84 w B g gp gn ov rv ta ga ua oa sn ss lim c (Yu c s p) (fun k=> .int .i64 (k:Nat)) e w':=by
 refine Z4y ?_;intro hp0;obtain⟨⟨va,vc,rfl⟩,aa,ac,rfl⟩:=hp0.forms;refine Z0 ?_;intro W1 b1 B1 X1 hgl hgB z1 K1 V1 hp1 hpd G1 x0 t0 t1 t2 t3 t4 t5 hW1 hmm hmf cR s14 HH HP HV HB1 HX1 o0 o1 HE CV;unfold pkV Y1a at CV ⊢
 have hT:Yu c s p=(s,[],0):=by
  have hq:Y1v p=true:=by unfold Y1v;rw[hop,hi];rfl
  unfold Yu doP nopP;rw[Yed Z2E,Yed (fun e=>e hE),Yed Z7,Yed (fun e=>e.2 hm),Yed (by rw[hq];exact Z2t),Yei hop,Yei hi]
 have HT:=hid hT;refine Z2z ?_;intro n0 e0 n4 n6 e6;refine Z1T ?_;intro nn hwx;have hme:((p.v Y1d:Int) !=s.cmd)=false:=by simp[hm]
 have ei:((p.v Ye:Int) == 4294967295)=true:=by rw[hi];rfl
 clear hp hp0 hp1 V1 hT hV h B1 X1 G1 hE hcl hpd hop hn hm hi;go_enter func16,ntmps16;go_wp2_with fail;go_at_call 52;refine cR.out.mono ?_;rintro e w2 ⟨rfl,hb2⟩;refine Z1 ?_;intro b2 z2 x0 t0 t1 t2 t3 t4 t5 TK HB2 HX2 hmx;go_wp2_with fail;refine YeS (n:=4).1 ?_;refine Yk (G:=Nat) (fun y=> [(38,.pointer (some ⟨w.heap.size+1,0,none⟩)),(39,.pointer (some ⟨w.heap.size+1,0,none⟩)),(40,.int .i64 p.op),(41,.agg #[.int .i64 p.op,.bool p.now,.int .i64 p.flags,.slice va p.vs.length vc,.slice aa p.n ac,.string (bs p.d)]),(42,.int .u64 (p.v Ye:Nat)),(9,.pointer (some ⟨y,0,none⟩)),(8,.int .i64 p.op)])
  (Y2o w2 (p.v Ye))
  0 (aF:= ?kA) ?kB hmx [38,39,40,41,42,9,8] (fun _=>rfl) (by kernel_rfl) (by kernel_rfl) ?kS ?kE ?kQ
 case kB =>
  exact Z3J
 case kS=>exact Z1R
 case kE =>
  exact Z2
 case kQ =>
  rintro d y w3 hall ⟨b3,-,hbox⟩;refine Z9 ?_;intro hy Y3 yi b3w B3 X3 x0 F3 t0 t1 t2 t3 t4 t5 hz3 HY3 HB3 HX3;gi_wp2;refine Z4 ?_;intro HK3 HF3 s11 cvS hS0 hyl HCV;clear F3 B3 X3 Y3 CV;go_upto_region 12 with fail;go_region_held3 (fun w'=>RS10 w g y p va vc aa ac s.cmd w3 w')
   (first | exact hS0 | assumption | exact⟨by assumption,by assumption,by assumption,by assumption,by assumption,by assumption,by assumption,by assumption,by assumption,by assumption⟩)
   (first | (go_at_call 56;refine(cvS Y1d _ ?_).out.mono ?_;(first | exact hS0 | assumption | exact⟨by assumption,by assumption,by assumption,by assumption,by assumption,by assumption,by assumption,by assumption,by assumption,by assumption⟩);rintro e w4 ⟨rfl,c0,c1,c2,c3,c4,c5,cx,cy,c11,b4⟩))
  have F4:=HF3.out.below b4;have HK4:=hid (HK3.out.below b4);clear cvS hS0 b4;go_wp2;go_ret2;rw[HT.out];exact⟨_,rv,lv,rfl,.inl ⟨rfl,rfl⟩,F4,.inl rfl,HK4.out⟩
theorem Y7W(p:PK)(v av:Value)(h:YO w B g gp gn ov rv lv ta ga ua oa sn ss lim c s)(hp:Y1Y B w p v av)(hV:Env B w)(hcl:s.closed=false)(hE:Y2L p.op p.now p.flags p.vs p.n p.I p.d=0)(hop:p.op=6)(hn:p.now=false)(hm:(p.v Y1d:Int)=s.cmd):
 Calls prog 16 #[.pointer (some ⟨g,0,none⟩),pkV p v av] w fun e w'=>Y1b 75 143 84 w B g gp gn ov rv ta ga ua oa sn ss lim c (Yu c s p) (fun k=> .int .i64 (k:Nat)) e w':=by
 refine Z4y ?_;intro hp0;obtain⟨⟨va,vc,rfl⟩,aa,ac,rfl⟩:=hp0.forms;refine Z0 ?_;intro W1 b1 B1 X1 hgl hgB z1 K1 V1 hp1 hpd G1 x0 t0 t1 t2 t3 t4 t5 hW1 hmm hmf cR s14 HH HP HV HB1 HX1 o0 o1 HE CV;unfold pkV Y1a at CV ⊢;obtain⟨s',hs'⟩: ∃s':FSt,s'= {s with cmd:=up1 s.cmd}:=⟨_,rfl⟩
 have hT:Yu c s p=((Ydp s' p).1,(Ydp s' p).2,0):=by
  have hq:Y1v p=false:=by unfold Y1v;exact Z1d
  unfold Yu doP;rw[Yed Z2E,Yed (fun e=>e hE),Yed Z7,Yed (fun e=>e.2 hm),Yei ⟨hn,hq⟩,Yed Z7,Yed Z7,hs']
 refine Z4H ?_;intro HT n0 e0 n4 n6 e6;refine Z1T ?_;intro nn hwx;have hme:((p.v Y1d:Int) !=s.cmd)=false:=by simp[hm]
 clear hp hp0 hp1 V1 hT hV h B1 X1 G1 hE hcl hpd hop hn hm;go_enter func16,ntmps16;go_wp2_with fail;go_at_call 52;refine cR.out.mono ?_;rintro e w2 ⟨rfl,hb2⟩;refine Z1 ?_;intro b2 z2 x0 t0 t1 t2 t3 t4 t5 TK HB2 HX2 hmx;go_wp2_with fail;refine YeS (n:=4).1 ?_;refine Yk (G:=Nat) (fun y=> [(38,.pointer (some ⟨w.heap.size+1,0,none⟩)),(39,.pointer (some ⟨w.heap.size+1,0,none⟩)),(40,.int .i64 p.op),(41,.agg #[.int .i64 p.op,.bool p.now,.int .i64 p.flags,.slice va p.vs.length vc,.slice aa p.n ac,.string (bs p.d)]),(42,.int .u64 (p.v Ye:Nat)),(9,.pointer (some ⟨y,0,none⟩)),(8,.int .i64 p.op)])
  (Y2o w2 (p.v Ye))
  0 (aF:= ?kA) ?kB hmx [38,39,40,41,42,9,8] (fun _=>rfl) (by kernel_rfl) (by kernel_rfl) ?kS ?kE ?kQ
 case kB =>
  exact Z3J
 case kS=>exact Z1R
 case kE =>
  exact Z2
 case kQ =>
  rintro d y w3 hall ⟨b3,-,hbox⟩;refine Z9 ?_;intro hy Y3 yi b3w B3 X3 x0 F3 t0 t1 t2 t3 t4 t5 hz3 HY3 HB3 HX3;gi_wp2;refine Z4 ?_;intro HK3 HF3 s11 cvS hS0 hyl HCV;clear F3 B3 X3 Y3 CV;go_upto_region 12 with fail;go_region_held3 (fun w'=>RS10 w g y p va vc aa ac s.cmd w3 w')
   (first | exact hS0 | assumption | exact⟨by assumption,by assumption,by assumption,by assumption,by assumption,by assumption,by assumption,by assumption,by assumption,by assumption⟩)
   (first | (go_at_call 56;refine(cvS Y1d _ ?_).out.mono ?_;(first | exact hS0 | assumption | exact⟨by assumption,by assumption,by assumption,by assumption,by assumption,by assumption,by assumption,by assumption,by assumption,by assumption⟩);rintro e w4 ⟨rfl,c0,c1,c2,c3,c4,c5,cx,cy,c11,b4⟩))
  refine ZR ?_;intro F4 G4' f11 hwc Wc hWc Kc Gc zc Fc;refine Zg ?_;clear Fc cvS hS0 F4 G4' Kc Gc zc HF3;intro Fc b4w HKc HBc HXc HYc HKBc hzc hyl4 hz4 x0 yi t0 t1 t2 t3 t4 t5;have hitt:=Y4Z HE.out;have G3:=Fc.blk;have f14:=G3.free 14;have s14:=(G3.cell 14).trans (rfl:_=some (Value.bool s'.closed));obtain⟨W4,hW4⟩: ∃W4,Wc.setCell ⟨g,14,none⟩ (.bool true)=W4:=⟨_,rfl⟩;have K4:Y1 (fun k=>k=g) Wc W4:=by rw[←hW4];exact(Y1.refl _ Wc).set _ _ (.inl rfl)
  have G4:Blk W4 g 75 (Y14 (.pointer (some ⟨gn,0,none⟩)) ta ga ua oa sn ss lim c.name c.disc s'.stat s'.cmd (.pointer (some ⟨gp,0,none⟩)) lv true):=by rw[←hW4];exact G3.set 14 _
  have z4:W4.heap.size=Wc.heap.size:=by rw[←hW4];exact Z3j
  have F4:=Fc.own K4 s'.stat s'.cmd lv s'.left true G4 (Fc.lft.kept K4 (fun b cs hb e=>by
   have e:b=g:=e;subst e
   exact Ym hb Fc.blk (by decide) rfl)) Fc.s0 Fc.s1 Fc.c0 Fc.c1 (by decide) (by decide) (by decide)
  have x0:=K4.cell x0 (show ¬w.heap.size=g from Z7);have yi:=K4.cell yi (show ¬y=g from Z7);have hyl:y<Wc.heap.size:=z4 ▸Yeb yi;have hxl:w.heap.size<Wc.heap.size:=Z7;obtain⟨W5,m5,N5,b5,hgf⟩:=nm_one W4 (p.v Ye) Z7;have F5:=F4.below b5;have cm:=hid (Y3I 38 128 [] _ _ F5 N5 Z7 hgf (show Y1e 38=some _ by rfl) (YcJ (p.v Ye) s'.stat s'.cmd));unfold Y5A Y1a at cm;have HK5:=hid ((HKc.out.trans K4 (fun i hi=> .inl (.inl hi))).below b5)
  have hR:Ydp s' p=({s' with closed:=true,stat:=up1 s'.stat},[⟨38,128,Yah (p.v Ye) s'.stat s'.cmd,[]⟩]):=rfl;have HR:=hid hR;rw[z4]at m5 N5 cm;generalize p.v Ye=X at *;clear Fc F4 F5 G3 G4 K4 N5 b5 hgf hR;go_wp2_with fail;refine cm.out.mono ?_;rintro e w6 ⟨v,rfl,hsl,hK,hF⟩;obtain⟨sa,sc,rfl,-⟩: ∃sa sc,v= .slice sa (Yah X s'.stat s'.cmd).length sc∧True:=Z14;have k7:Below w6.heap.size w6 (w6.alloc (.cells #[.int .i64 38,.bool false,.int .i64 128,.slice sa (Yah X s'.stat s'.cmd).length sc,.slice none 0 0,.string (bs [])] 63)):=(Yea _ _).alloc (Ye9 _) _
  exact Z1V
end
end
section
open Go.Proofs.Tryz
open Go Go.RowKit
theorem Z2o{P:Prop}(h:P:=by
 rintro e W2 ⟨va',rfl,hsl,hK,hF⟩
 have hsl':=hsl
 obtain⟨qa,qc,hq,_⟩:=hsl'
 have hK':Y1 (fun k=>k=g) w5 W2:=((Y1.refl _ w5).below b4).trans hK (fun i hi=>by rcases hi with hi | hi;exact .inl hi;exact .inr Z7)
 exact Z1f):P:=h
theorem Z3E{P:Prop}(h:P:=by
 exact⟨⟨(Y1.refl _ w5).drew,fun _=>(Yea _ _).drew,by simp,by simp,by simp,by simp,by simp,by simp,by simp,by simp⟩,by simp[N9]⟩):P:=h
section
variable {w:World}{B g gp gn:Nat}{ov rv lv ta ga ua oa:Value}{sn ss:List UInt8}{lim:Int}{c:FCf}{s:FSt}
theorem Y7V(p:PK)(v av:Value)(h:YO w B g gp gn ov rv lv ta ga ua oa sn ss lim c s)(hp:Y1Y B w p v av)(hV:Env B w)(hcl:s.closed=false)(hE:Y2L p.op p.now p.flags p.vs p.n p.I p.d=0)(hr:s.rc.length≤1000000)(hrl: ∀k,(s.rc.getD k ([],[])).2.length≤100000)(hop:p.op=0)(hn:p.now=false)(hm:(p.v Y1d:Int)=s.cmd)(hi:p.v Ye≠Y26):
 Calls prog 16 #[.pointer (some ⟨g,0,none⟩),pkV p v av] w fun e w'=>Y1b 75 143 84 w B g gp gn ov rv ta ga ua oa sn ss lim c (Yu c s p) (fun k=> .int .i64 (k:Nat)) e w':=by
 refine Z4y ?_;intro hp0;obtain⟨⟨va,vc,rfl⟩,aa,ac,rfl⟩:=hp0.forms;refine Z0 ?_;intro W1 b1 B1 X1 hgl hgB z1 K1 V1 hp1 hpd G1 x0 t0 t1 t2 t3 t4 t5 hW1 hmm hmf cR s14 HH HP HV HB1 HX1 o0 o1 HE CV;unfold pkV Y1a at CV ⊢;obtain⟨s',hs'⟩: ∃s':FSt,s'= {s with cmd:=up1 s.cmd}:=⟨_,rfl⟩
 have hT:Yu c s p=({s' with stat:=up1 s'.stat},[⟨32,128,Y5Z (p.v Y2P) (p.v Ye) s'.stat s'.cmd,p.d.take (Y1N s'.rc).toNat⟩],0):=by
  have hq:Y1v p=false:=by unfold Y1v;rw[Yeh hi,Ygf]
  unfold Yu doP nopP;rw[Yed Z2E,Yed (fun e=>e hE),Yed Z7,Yed (fun e=>e.2 hm),Yei ⟨hn,hq⟩,Yei hop,Yed hi,hs']
 have HT:=hid hT;have hr:s'.rc.length≤1000000:=by rw[hs'];exact hr
 have hrl: ∀k,(s'.rc.getD k ([],[])).2.length≤100000:=by rw[hs'];exact hrl
 refine Z2z ?_;intro n0 e0 n4 n6 e6;refine Z1T ?_;intro nn hwx;have hme:((p.v Y1d:Int) !=s.cmd)=false:=by simp[hm]
 have ei:((p.v Ye:Int) == 4294967295)=false:=by
  rw[Yen];intro e;exact hi (by unfold Y26;exact Z7)
 have hlun:=Yd9 hE;have hitt:=Y4Z hE;clear hp hp0 hp1 V1 hT hV h B1 X1 G1 hE hcl hpd hop hn hm hi;go_enter func16,ntmps16;go_wp2_with fail;go_at_call 52;refine cR.out.mono ?_;rintro e w2 ⟨rfl,hb2⟩;refine Z1 ?_;intro b2 z2 x0 t0 t1 t2 t3 t4 t5 TK HB2 HX2 hmx;go_wp2_with fail;refine YeS (n:=4).1 ?_;refine Yk (G:=Nat) (fun y=> [(38,.pointer (some ⟨w.heap.size+1,0,none⟩)),(39,.pointer (some ⟨w.heap.size+1,0,none⟩)),(40,.int .i64 p.op),(41,.agg #[.int .i64 p.op,.bool p.now,.int .i64 p.flags,.slice va p.vs.length vc,.slice aa p.n ac,.string (bs p.d)]),(42,.int .u64 (p.v Ye:Nat)),(9,.pointer (some ⟨y,0,none⟩)),(8,.int .i64 p.op)])
  (Y2o w2 (p.v Ye))
  0 (aF:= ?kA) ?kB hmx [38,39,40,41,42,9,8] (fun _=>rfl) (by kernel_rfl) (by kernel_rfl) ?kS ?kE ?kQ
 case kB =>
  exact Z3J
 case kS=>exact Z1R
 case kE =>
  exact Z2
 case kQ =>
  rintro d y w3 hall ⟨b3,-,hbox⟩;refine Z9 ?_;intro hy Y3 yi b3w B3 X3 x0 F3 t0 t1 t2 t3 t4 t5 hz3 HY3 HB3 HX3;gi_wp2;refine Z4 ?_;intro HK3 HF3 s11 cvS hS0 hyl HCV;clear F3 B3 X3 Y3 CV;go_upto_region 12 with fail;go_region_held3 (fun w'=>RS10 w g y p va vc aa ac s.cmd w3 w')
   (first | exact hS0 | assumption | exact⟨by assumption,by assumption,by assumption,by assumption,by assumption,by assumption,by assumption,by assumption,by assumption,by assumption⟩)
   (first | (go_at_call 56;refine(cvS Y1d _ ?_).out.mono ?_;(first | exact hS0 | assumption | exact⟨by assumption,by assumption,by assumption,by assumption,by assumption,by assumption,by assumption,by assumption,by assumption,by assumption⟩);rintro e w4 ⟨rfl,c0,c1,c2,c3,c4,c5,cx,cy,c11,b4⟩))
  refine ZR ?_;intro F4 G4' f11 hwc Wc hWc Kc Gc zc Fc;refine Zg ?_;clear Fc cvS hS0 F4 G4' Kc Gc zc HF3;intro Fc b4w HKc HBc HXc HYc HKBc hzc hyl4 hz4 x0 yi t0 t1 t2 t3 t4 t5;have V3:=HV.out.all Wc HKBc.out;have cm:=hid (Y6p Fc hr hrl V3.1 V3.2.2.1 V3.2.1);have hM:=Y3C s'.rc;obtain⟨m,hm⟩: ∃m:Nat,Y1N s'.rc=(m:Int):=⟨(Y1N s'.rc).toNat,by omega⟩;rw[hm]at cm hM;have HFc:=hid Fc;have HDT:=hid (show p.d.take (Y1N s'.rc).toNat=p.d.take m by rw[hm];rfl)
  have hyl:y<Wc.heap.size:=Yeb yi;clear Fc V3 hm;go_wp2_with fail;refine cm.out.mono ?_;rintro e w5 ⟨rfl,hb4⟩;have KB4:=HKBc.out.below hb4;have hB4:=HBc.out.below hb4;have F4:=HFc.out.below hb4
  have tk4: ∀W,Y1 (fun k=>k=g) w5 W→W.cell? ⟨w.heap.size+1,0,none⟩=some (.int .i64 p.op)∧W.cell? ⟨w.heap.size+1,1,none⟩=some (.bool p.now)∧W.cell? ⟨w.heap.size+1,2,none⟩=some (.int .i64 p.flags)∧W.cell? ⟨w.heap.size+1,3,none⟩=some (.slice va p.vs.length vc)∧W.cell? ⟨w.heap.size+1,4,none⟩=some (.slice aa p.n ac)∧W.cell? ⟨w.heap.size+1,5,none⟩=some (.string (bs p.d))∧W.cell? ⟨w.heap.size,0,none⟩=some (.pointer (some ⟨g,0,none⟩))∧W.cell? ⟨y,0,none⟩=some (.int .u64 (p.v Ye:Nat)):=by
   intro W hK;have Bq:=hK.blk hB4 (show ¬w.heap.size+1=g from Z7);have Xq:=hK.blk (HXc.out.below hb4) (show ¬w.heap.size=g from Z7);have Yq:=hK.blk (HYc.out.below hb4) (show ¬y=g from Z7);exact Z38
  obtain⟨t0,t1,t2,t3,t4,t5,x0,yi⟩:=tk4 w5 (Y1.refl _ _);have TK4:=hid tk4;have CVY:=hid (fun(W:World) (hb:Below w5.heap.size w5 W)=>HCV.out Y2P W (KB4.below hb));have F4:=hid F4;have hsz4:=hb4.size;have HK4w:=hid (HKc.out.below hb4);clear tk4 hB4 HCV HFc cm hb4 HYc HXc HBc;generalize p.v Ye=X at *;generalize p.v Y2P=Y at *;by_cases hx:m<p.d.length
  ·have hD:p.d.take m=p.d.take m:=rfl;have h0m:(0:Int)≤(m:Int):=Z7;have hmn:(m:Int)≤(p.d.length:Int):=Z7;go_wp2_with fail;refine YeS (n:=4).1 ?_;refine Yk (G:=Nat×Value×Nat) (fun y'=> [(102,.pointer (some ⟨g,0,none⟩)),(103,.string (bs (p.d.take m))),(104,.map (some y'.1)),(105,.agg #[.int .i64 p.op,.bool p.now,.int .i64 p.flags,.slice va p.vs.length vc,.slice aa p.n ac,.string (bs p.d)]),(106,.int .u64 (Y:Int)),(107,.int .u64 (X:Int)),(108,.map (some y'.1)),(109,Y1a 32 false 128 y'.2.1 (.slice none 0 0) (p.d.take m)),(110,.slice (some ⟨y'.2.2,0,none⟩) 1 1),(4,.slice (some ⟨y'.2.2,0,none⟩) 1 1),(5,.int .i64 0)])
    (fun d y' W=>Y28 g w5 Y X (fun va W=>(∃a cc,va= .slice a 6 cc)∧Y9K W va 6 (Y5Z Y X s'.stat s'.cmd)∧YO W B g gp gn ov rv lv ta ga ua oa sn ss lim c {s' with stat:=up1 s'.stat}) (fun rB W=>Ycu W (.slice (some ⟨rB,0,none⟩) 1 1) [⟨32,128,Y5Z Y X s'.stat s'.cmd,(p.d.take m)⟩]) d y' W∧N9 d)
    (0,undef,0) (aF:= ?kAu) ?kBu hmx [102,103,104,105,106,107,108,109,110,4,5] (fun _=>rfl) (by kernel_rfl) (by kernel_rfl) ?kSu ?kEu ?kQu
   case kBu =>
    intro y';exact Za
   case kSu=>exact Z3E
   case kEu =>
    refine⟨?u0,?u1,?u2,?u3,?u4,?u5,?u6,?u7,?u8,?u9,?u10,?u11,?u12,?u13,trivial⟩
    all_goals refine⟨by simp,fun d y' W hC hd hdep=>⟨by first | (simp[go_sem,Oper.about];done) | (simp[go_sem,Oper.about];exact trivial),?_⟩⟩
    case u2 =>
     exact Z1b
    case u4 =>
     exact Zq
    case u5 =>
     exact Zs
    case u7 =>
     exact Zu
    case u8 =>
     exact Zr
    case u9 =>
     exact ZO
    case u10 =>
     refine Z25 ?_;clear hdep;intro hdep d5 d7 d8 d2 b4 hy hN;refine Yw (f:=58) (args:= #[.pointer (some ⟨g,0,none⟩),.int .i64 32,.int .i64 128,.string (bs (p.d.take m)),.map (some y'.1)]) (w':=W) Z3U rfl Z2t (Yez.2 ((Y3I 32 128 (p.d.take m) _ _ (F4.out.below b4) hN Z3n (fun m=>by exact Z2A) (show Y1e 32=some _ by rfl) (Y7P Y X s'.stat s'.cmd)).mono ?_));exact Z2o
    case u11 =>
     simp[Region.binds]at hdep;have d10:d 10=true:=Z2x;obtain⟨⟨qa,qc,hq⟩,hsl,hF⟩:=hC.1.2.2.2.2.2.2.2.2.1 d10;have hA:=Y2S (op:=32) (flags:=128) (d:=(p.d.take m)) (vs:=Y5Z Y X s'.stat s'.cmd) hsl;exact Z1S
    all_goals
     obtain⟨q0,q1,q2,q3,q4,q5,q6,q7⟩:=TK4.out W hC.1.1;exact Yz Z4I rfl ⟨hC.1.same _ Z7 Z7 Z7 Z7 Z7 Z7 Z7,hC.2.also _ Z7⟩
   case kQu =>
    rintro d ⟨y1,y2,y3⟩ W5 hall ⟨hC,-⟩;refine Z34 ?_;intro hP8 hP9;have hK:=HK4w.out.trans hC.1 (fun i hi=> .inl (.inl hi));exact Z42
  ·have hD:p.d.take m=p.d:=Yfc Z7;have HD:=hid hD;clear hD;go_wp2_with fail;refine YeS (n:=4).1 ?_;refine Yk (G:=Nat×Value×Nat) (fun y'=> [(102,.pointer (some ⟨g,0,none⟩)),(103,.string (bs p.d)),(104,.map (some y'.1)),(105,.agg #[.int .i64 p.op,.bool p.now,.int .i64 p.flags,.slice va p.vs.length vc,.slice aa p.n ac,.string (bs p.d)]),(106,.int .u64 (Y:Int)),(107,.int .u64 (X:Int)),(108,.map (some y'.1)),(109,Y1a 32 false 128 y'.2.1 (.slice none 0 0) p.d),(110,.slice (some ⟨y'.2.2,0,none⟩) 1 1),(4,.slice (some ⟨y'.2.2,0,none⟩) 1 1),(5,.int .i64 0)])
    (fun d y' W=>Y28 g w5 Y X (fun va W=>(∃a cc,va= .slice a 6 cc)∧Y9K W va 6 (Y5Z Y X s'.stat s'.cmd)∧YO W B g gp gn ov rv lv ta ga ua oa sn ss lim c {s' with stat:=up1 s'.stat}) (fun rB W=>Ycu W (.slice (some ⟨rB,0,none⟩) 1 1) [⟨32,128,Y5Z Y X s'.stat s'.cmd,p.d⟩]) d y' W∧N9 d)
    (0,undef,0) (aF:= ?kAv) ?kBv hmx [102,103,104,105,106,107,108,109,110,4,5] (fun _=>rfl) (by kernel_rfl) (by kernel_rfl) ?kSv ?kEv ?kQv
   case kBv =>
    intro y';exact Za
   case kSv=>exact Z3E
   case kEv =>
    refine⟨?v0,?v1,?v2,?v3,?v4,?v5,?v6,?v7,?v8,?v9,?v10,?v11,?v12,?v13,trivial⟩
    all_goals refine⟨by simp,fun d y' W hC hd hdep=>⟨by first | (simp[go_sem,Oper.about];done) | (simp[go_sem,Oper.about];exact trivial),?_⟩⟩
    case v2 =>
     exact Z1b
    case v4 =>
     exact Zq
    case v5 =>
     exact Zs
    case v7 =>
     exact Zu
    case v8 =>
     exact Zr
    case v9 =>
     exact ZO
    case v10 =>
     refine Z25 ?_;clear hdep;intro hdep d5 d7 d8 d2 b4 hy hN;refine Yw (f:=58) (args:= #[.pointer (some ⟨g,0,none⟩),.int .i64 32,.int .i64 128,.string (bs p.d),.map (some y'.1)]) (w':=W) Z3U rfl Z2t (Yez.2 ((Y3I 32 128 p.d _ _ (F4.out.below b4) hN Z3n (fun m=>by exact Z2A) (show Y1e 32=some _ by rfl) (Y7P Y X s'.stat s'.cmd)).mono ?_));exact Z2o
    case v11 =>
     simp[Region.binds]at hdep;have d10:d 10=true:=Z2x;obtain⟨⟨qa,qc,hq⟩,hsl,hF⟩:=hC.1.2.2.2.2.2.2.2.2.1 d10;have hA:=Y2S (op:=32) (flags:=128) (d:=p.d) (vs:=Y5Z Y X s'.stat s'.cmd) hsl;exact Z1W
    all_goals
     obtain⟨q0,q1,q2,q3,q4,q5,q6,q7⟩:=TK4.out W hC.1.1;exact Yz Z4I rfl ⟨hC.1.same _ Z7 Z7 Z7 Z7 Z7 Z7 Z7,hC.2.also _ Z7⟩
   case kQv =>
    rintro d ⟨y1,y2,y3⟩ W5 hall ⟨hC,-⟩;refine Z34 ?_;intro hP8 hP9;have hK:=HK4w.out.trans hC.1 (fun i hi=> .inl (.inl hi));exact Z3V
end
end
section
open Go.Proofs.Tryz
open Go Go.RowKit
section
variable {w:World}{B g gp gn:Nat}{ov rv lv ta ga ua oa:Value}{sn ss:List UInt8}{lim:Int}{c:FCf}{s:FSt}
theorem Y7U(p:PK)(v av:Value)(h:YO w B g gp gn ov rv lv ta ga ua oa sn ss lim c s)(hp:Y1Y B w p v av)(hV:Env B w)(hcl:s.closed=false)(hE:Y2L p.op p.now p.flags p.vs p.n p.I p.d=0)(hop:p.op=4)(hn:p.now=false)(hm:(p.v Y1d:Int)=s.cmd)(ht:p.v YB≠Y26):
 Calls prog 16 #[.pointer (some ⟨g,0,none⟩),pkV p v av] w fun e w'=>Y1b 75 143 84 w B g gp gn ov rv ta ga ua oa sn ss lim c (Yu c s p) (fun k=> .int .i64 (k:Nat)) e w':=by
 obtain⟨s',hs'⟩: ∃s':FSt,s'= {s with cmd:=up1 s.cmd}:=⟨_,rfl⟩;obtain⟨la,lc,hlv⟩: ∃a c,lv= .slice a s'.left.length c:=by obtain⟨a,c,h1,_⟩:=h.lft;exact⟨a,c,by rw[hs'];exact h1⟩
 subst hlv;refine Z4y ?_;intro hp0;obtain⟨⟨va,vc,rfl⟩,aa,ac,rfl⟩:=hp0.forms;refine Z0 ?_;intro W1 b1 B1 X1 hgl hgB z1 K1 V1 hp1 hpd G1 x0 t0 t1 t2 t3 t4 t5 hW1 hmm hmf cR s14 HH HP HV HB1 HX1 o0 o1 HE CV;unfold pkV Y1a at CV ⊢
 have hT:Yu c s p=((if p.v YB≠1∨s'.left= []∨p.d≠ []∨Y1V p.flags=true then Y34 s' p 4 else Y7m s' p).1,(if p.v YB≠1∨s'.left= []∨p.d≠ []∨Y1V p.flags=true then Y34 s' p 4 else Y7m s' p).2,0):=by
  have hq:Y1v p=false:=by unfold Y1v;exact Z1d
  unfold Yu doP Ybl;rw[Yed Z2E,Yed (fun e=>e hE),Yed Z7,Yed (fun e=>e.2 hm),Yei ⟨hn,hq⟩,Yed Z7,Yei hop,Yei ht,hs']
 refine Z2d ?_;intro HT n0 e0;have n4:(p.op !=4)=false:=Z1d;have n6:(p.op !=6)=true:=Z1d;have e6:(p.op == 6)=false:=Z1d;refine Z1T ?_;intro nn hwx;obtain⟨fl0,fl1⟩:=Y5Y hE;have hme:((p.v Y1d:Int) !=s.cmd)=false:=by simp[hm]
 have et:((p.v YB:Int) !=4294967295)=true:=by
  exact Z3P
 clear hp hp0 hp1 V1 hT hV h B1 X1 G1 hE hcl hpd hop hn hm ht;go_enter func16,ntmps16;go_wp2_with fail;go_at_call 52;refine cR.out.mono ?_;rintro e w2 ⟨rfl,hb2⟩;refine Z1 ?_;intro b2 z2 x0 t0 t1 t2 t3 t4 t5 TK HB2 HX2 hmx;go_wp2_with fail;refine YeS (n:=4).1 ?_;refine Yk (G:=Nat) (fun y=> [(38,.pointer (some ⟨w.heap.size+1,0,none⟩)),(39,.pointer (some ⟨w.heap.size+1,0,none⟩)),(40,.int .i64 p.op),(41,.agg #[.int .i64 p.op,.bool p.now,.int .i64 p.flags,.slice va p.vs.length vc,.slice aa p.n ac,.string (bs p.d)]),(42,.int .u64 (p.v Ye:Nat)),(9,.pointer (some ⟨y,0,none⟩)),(8,.int .i64 p.op)])
  (Y2o w2 (p.v Ye))
  0 (aF:= ?kA) ?kB hmx [38,39,40,41,42,9,8] (fun _=>rfl) (by kernel_rfl) (by kernel_rfl) ?kS ?kE ?kQ
 case kB =>
  exact Z3J
 case kS=>exact Z1R
 case kE =>
  exact Z2
 case kQ =>
  rintro d y w3 hall ⟨b3,-,hbox⟩;refine Z9 ?_;intro hy Y3 yi b3w B3 X3 x0 F3 t0 t1 t2 t3 t4 t5 hz3 HY3 HB3 HX3;gi_wp2;refine Z4 ?_;intro HK3 HF3 s11 cvS hS0 hyl HCV;clear F3 B3 X3 Y3 CV;go_upto_region 12 with fail;go_region_held3 (fun w'=>RS10 w g y p va vc aa ac s.cmd w3 w')
   (first | exact hS0 | assumption | exact⟨by assumption,by assumption,by assumption,by assumption,by assumption,by assumption,by assumption,by assumption,by assumption,by assumption⟩)
   (first | (go_at_call 56;refine(cvS Y1d _ ?_).out.mono ?_;(first | exact hS0 | assumption | exact⟨by assumption,by assumption,by assumption,by assumption,by assumption,by assumption,by assumption,by assumption,by assumption,by assumption⟩);rintro e w4 ⟨rfl,c0,c1,c2,c3,c4,c5,cx,cy,c11,b4⟩))
  refine Z3v ?_;intro F4 G4' f11 hwc Wc hWc Kc;have Gc:Blk Wc g 75 (Y14 (.pointer (some ⟨gn,0,none⟩)) ta ga ua oa sn ss lim c.name c.disc s.stat (up1 s.cmd) (.pointer (some ⟨gp,0,none⟩)) (.slice la s'.left.length lc) s.closed):=by rw[←hWc];exact G4'.set 11 _
  have zc:Wc.heap.size=w4.heap.size:=by rw[←hWc];exact Z3j
  have Fc:=F4.own Kc s.stat (up1 s.cmd) (.slice la s'.left.length lc) s.left s.closed Gc (F4.lft.kept Kc (fun b cs hb e=>by
   have e:b=g:=e;subst e
   exact Ym hb F4.blk (by decide) rfl)) F4.s0 F4.s1 (by unfold up1;omega) (by unfold up1;omega) (by decide) (by decide) (by decide)
  refine Zg ?_;clear Fc cvS hS0 F4 G4' Kc Gc zc HF3;intro Fc b4w HKc HBc HXc HYc HKBc hzc hyl4 hz4 x0 yi t0 t1 t2 t3 t4 t5;clear hs';have HFc:=hid Fc
  have cvS: ∀ (name:List UInt8) (W:World),(RS9 w g y p va vc aa ac Wc W)→Hid (Calls prog 56 #[.agg #[.int .i64 p.op,.bool p.now,.int .i64 p.flags,.slice va p.vs.length vc,.slice aa p.n ac,.string (bs p.d)],.string (bs name)] W fun e w'=>e= .returned (.int .u64 (p.v name:Nat))∧RS9 w g y p va vc aa ac Wc w'):=by
   rintro name W ⟨i0,i1,i2,i3,i4,i5,i6,i7,iB⟩;refine hid ((HCV.out name W (HKBc.out.below iB)).out.mono ?_);exact Z1G
  have hS0:RS9 w g y p va vc aa ac Wc Wc.drew:=⟨t0,t1,t2,t3,t4,t5,x0,yi,(Yea _ _).drew⟩;have hyl:y<Wc.heap.size:=Yeb yi;clear Fc;go_upto_region 27 with fail;go_region_held3 (fun w'=>RS9 w g y p va vc aa ac Wc w')
   (first | exact hS0 | assumption | exact⟨by assumption,by assumption,by assumption,by assumption,by assumption,by assumption,by assumption,by assumption,by assumption⟩)
   (first | (go_at_call 56;refine(cvS YB _ ?_).out.mono ?_;(first | exact hS0 | assumption | exact⟨by assumption,by assumption,by assumption,by assumption,by assumption,by assumption,by assumption,by assumption,by assumption⟩);rintro e w5 ⟨rfl,c0,c1,c2,c3,c4,c5,cx,cy,b5⟩))
  have F4:=HFc.out.below b5;have s13:=(F4.blk.cell 13).trans (rfl:_=some (Value.slice la s'.left.length lc));have cr:=hid (Y32 p _ _ 4 (w.heap.size+1) w.heap.size F4 (HP.out w5 (HKBc.out.below b5)) HE.out Z7 Z7 (HBc.out.below b5) cx);have HK4:=hid (HKc.out.below b5);clear cvS hS0 b5;by_cases q1:p.v YB=1
  ·have r1:((p.v YB:Int) !=1)=false:=by rw[q1];rfl
   by_cases q2:s'.left.length=0
   ·have r2:((s'.left.length:Int) == 0)=true:=by rw[q2];rfl
    have HX:=hid (show(p.v YB≠1∨s'.left= []∨p.d≠ []∨Y1V p.flags=true)from .inr (.inl (YeK q2)));clear q1 q2 F4;exact Zl
   ·have r2:((s'.left.length:Int) == 0)=false:=Z1r;have hne:s'.left≠ []:=fun e=>q2 (by rw[e];rfl)
    by_cases q3:0<p.d.length
    ·have HX:=hid (show(p.v YB≠1∨s'.left= []∨p.d≠ []∨Y1V p.flags=true)from .inr (.inr (.inl (fun e=>by rw[e]at q3;exact absurd q3 Z2t))));clear q1 q2 F4 hne;exact Zl
    ·have hd0:p.d= []:=YeK Z7;by_cases q4:p.flags / 64 % 2=1
     ·have r4:(p.flags / 64 % 2 == 1)=true:=by rw[q4];rfl
      have HX:=hid (show(p.v YB≠1∨s'.left= []∨p.d≠ []∨Y1V p.flags=true)from .inr (.inr (.inr (by unfold Y1V;rw[Yel q4]))));clear q1 q2 F4 hne hd0 q4;exact Zl
     ·have r4:(p.flags / 64 % 2 == 1)=false:=by rw[Yen];exact q4
      have HX:=hid (show ¬(p.v YB≠1∨s'.left= []∨p.d≠ []∨Y1V p.flags=true)from fun e=>by
       rcases e with e | e | e | e
       ·exact e q1
       ·exact hne e
       ·exact e hd0
       ·unfold Y1V at e;exact q4 (YeE e))
      obtain⟨x,r,hxr⟩: ∃x r,s'.left=x :: r:=by
       cases h:s'.left with
       | nil=>exact absurd h hne
       | cons x r=>exact⟨x,r,rfl⟩
      exact Z1Q
  ·have r1:((p.v YB:Int) !=1)=true:=Z3M;have HX:=hid (show(p.v YB≠1∨s'.left= []∨p.d≠ []∨Y1V p.flags=true)from .inl q1);clear q1 F4;exact Zl
end
end
end Go.Proofs.YtfadikchijkcfaaGreatDoor
