/- What is wrong with what a target is told, by the document. -/
import Derived.Test.YtfadikchijkcfaaGreatDoorParsePure
import Derived.Test.YtfadikchijkcfaaGreatDoorNegoAnswer
import Derived.Test.YtfadikchijkcfaaGreatDoorTCrowd
import Derived.Test.YtfadikchijkcfaaGreatDoorOpen
import Derived.Test.YtfadikchijkcfaaGreatDoorDelete
import Derived.Test.YtfadikchijkcfaaGreatDoorResultR
import Derived.Test.YtfadikchijkcfaaGreatDoorGather
import Derived.Deep.DeepCutAuto
import Derived.Deep.CutBlock
import Derived.StillTailTactics
import Derived.Test.YtfadikchijkcfaaGreatDoorThick
set_option linter.unusedVariables false
set_option linter.unusedSectionVars false
set_option linter.unusedSimpArgs false
set_option maxRecDepth 100000
set_option maxHeartbeats 16000000
namespace Go.Proofs.YtfadikchijkcfaaGreatDoor
section
open Go.Proofs.Tryz
open Go Go.RowKit
theorem tsl_take{w:World}{a:Option Addr}{n c:Nat}{l:List (List UInt8)}(h:TSl w (.slice a n c) l)(k:Nat)(hk:k≤l.length)(c':Nat):TSl w (.slice a k c') (l.take k):=by
 obtain⟨a',cap,hv,hl,hc⟩:=h
 cases hv
 have hlen:(l.take k).length=k:=Z1X;unfold TSl;rw[hlen];refine⟨a,c',rfl,by simp[Y3k,hlen];omega,?_⟩;by_cases h0:k=0
 ·exact Z44
 ·obtain⟨b,off,ha,hcell⟩:=hc.resolve_left Z7;refine .inr ⟨b,off,ha,fun j u hu=>hcell j u ?_⟩;rw[Y3k,YeR,Yfg]at hu;rw[Y3k,YeR]
  split at hu
  ·exact hu
  ·cases hu
theorem Y9i(a:Option Addr)(n c:Nat)(l:List (List UInt8))(x:List UInt8)(w:World)(h:TSl w (.slice a n c) l)(k:Nat)(hk:k≤l.length)(c':Nat)(hn:l.length≤1048576):
 Calls prog 99 #[.agg #[.slice a k c',.slice none 0 0,.slice none 0 0,.string ⟨#[]⟩,.string ⟨#[]⟩,.int .i64 0,.slice none 0 0],.string (bs x)] w fun e w'=>e= .returned (.bool ((l.take k).contains x))∧Below w.heap.size w w':=by
 have hlen:(l.take k).length=k:=Z1X;have:=rhas_any a c' (.slice none 0 0) (.slice none 0 0) (.slice none 0 0) [] [] 0 (l.take k) x w (by rw[hlen];exact tsl_take h k hk c') (by rw[hlen];exact Z7);rw[hlen]at this;exact this
def RQ1(ts:List (List UInt8))(B:Nat)(W:World)(i:Value)(wr:World):Prop:=
 ∃k:Nat,k≤ts.length∧i= .int .i64 (k:Nat)∧Hid (YU (Y8T ts) k)∧Below B W wr
def RQ2(gs:GL)(B:Nat)(W:World)(i:Value)(wr:World):Prop:=
 ∃k:Nat,k≤gs.length∧i= .int .i64 (k:Nat)∧Hid (YU (Y9J gs) k)∧Below B W wr
def RQ3(us:PL)(B:Nat)(W:World)(i:Value)(wr:World):Prop:=
 ∃k:Nat,k≤us.length∧i= .int .i64 (k:Nat)∧Hid (YU (Y7L us) k)∧Below B W wr
def RQ4(us:PL)(x:List UInt8)(k:Nat)(B:Nat)(W:World)(t i:Value)(wr:World):Prop:=
 ∃j:Nat,j≤k∧i= .int .i64 (j:Nat)∧t= .bool (((us.take j).map (·.1)).contains x)∧Below B W wr
theorem Ybx(us:PL)(x:List UInt8)(j:Nat)(hj:j<us.length):((us.take (j+1)).map (·.1)).contains x=(((us.take j).map (·.1)).contains x || (us.getD j ([],[])).1 == x):=by
 rw[Yeq hj,Yfi,Yft,List.getD,Yec hj];simp only[YeY,YfH,YeM,YfJ,YfT,Yf2]
 congr 1
 rw[Yg3,Yfb,Yfb];exact eq_comm
def FaultP(r:Nat×Int)(w:World)(e:Ending)(w':World):Prop:=e= .returned (YS r.1 r.2)∧Below w.heap.size w w'
theorem ZB{P:Prop}(h:P:=by
 go_enter func49,ntmps49
 go_wp2_with fail
 refine(Y27 _ _).mono ?_
 rintro e w2 ⟨rfl,hb2⟩
 have F2:=F0.below hb2
 have q0:=F2.c0
 have q1:=F2.c1
 have q2:=F2.f0
 have q3:=F2.f1
 have b2:=b0.trans (hb2.mono b0.size)
 go_wp2
 refine Yej (v:= .agg #[.int .i64 4,.int .i64 (-1)]) Z19 rfl ?_
 exact⟨by rw[HE.out];rfl,(b2.setCell (p:=⟨w.heap.size+1,0,none⟩) Z2t _).setCell (p:=⟨w.heap.size+1,1,none⟩) Z2t _⟩):P:=h
theorem Z19{P:Prop}(h:P:=by
 simp[results,results49,go_sem,q0,q1]):P:=h
theorem Z4P{P Q:Prop}(k:Q)(h:Q→P:=by
 obtain⟨W2,hW2⟩: ∃W2,W1.alloc (.cells #[.int .i64 0,.int .i64 0] 38)=W2:=⟨_,rfl⟩
 have F0:Y7D (w.heap.size+1) W2:=by have:=YeC W1 (.cells #[.int .i64 0,.int .i64 0] 38);rw[z1,hW2]at this;exact this
 refine fun z_=>?_
 revert F0;revert hW2;revert W2
 exact z_):P:=h k
section
variable (ta ga ua oa:Option Addr)(tc gc uc oc:Nat)(ts:List (List UInt8))(gs:GL)(us:PL)(sn ss:List UInt8)(lim:Int)(own:PL)(w:World)
 (C:YD w ts gs us sn ss lim own (.slice ta ts.length tc) (.slice ga gs.length gc) (.slice ua us.length uc) (.slice oa own.length oc))
 (hsz: ∀k,(own.getD k ([],[])).2.length≤100000) (hon:own.length≤100000) (hP:PT w)
include C hsz hon hP
theorem Ya2:Calls prog 49 #[Y2I (.slice ta ts.length tc) (.slice ga gs.length gc) (.slice ua us.length uc) (.slice oa own.length oc) sn ss lim] w fun e w'=>FaultP (Yt ts gs us sn ss lim own) w e w':=by
 refine Z58 ?_;intro W1 hW1;have z1:W1.heap.size=w.heap.size+1:=Z1J;refine Z4P ?_;intro W2 hW2 F0;have b1:Below w.heap.size w W1:=by rw[←hW1];exact Ze
 have b12:Below W1.heap.size W1 W2:=Z4F;have b0:=b1.trans (b12.mono b1.size);have z2:W2.heap.size=w.heap.size+2:=by rw[←hW2];simp[z1]
 have t0:W2.cell? ⟨w.heap.size,0,none⟩=some (.slice ta ts.length tc):=(b12.cell (p:=⟨w.heap.size,0,none⟩) (by simp[z1])).trans Z1J;have t1:W2.cell? ⟨w.heap.size,1,none⟩=some (.slice ga gs.length gc):=(b12.cell (p:=⟨w.heap.size,1,none⟩) (by simp[z1])).trans Z1J;have t2:W2.cell? ⟨w.heap.size,2,none⟩=some (.slice ua us.length uc):=(b12.cell (p:=⟨w.heap.size,2,none⟩) (by simp[z1])).trans Z1J;have t3:W2.cell? ⟨w.heap.size,3,none⟩=some (.string (bs sn)):=(b12.cell (p:=⟨w.heap.size,3,none⟩) (by simp[z1])).trans Z1J
 have t4:W2.cell? ⟨w.heap.size,4,none⟩=some (.string (bs ss)):=(b12.cell (p:=⟨w.heap.size,4,none⟩) (by simp[z1])).trans Z1J;have t5:W2.cell? ⟨w.heap.size,5,none⟩=some (.int .i64 lim):=(b12.cell (p:=⟨w.heap.size,5,none⟩) (by simp[z1])).trans Z1J;have t6:W2.cell? ⟨w.heap.size,6,none⟩=some (.slice oa own.length oc):=(b12.cell (p:=⟨w.heap.size,6,none⟩) (by simp[z1])).trans Z1J;have HC:=hid C;have q0:=F0.c0
 have q1:=F0.c1;have q2:=F0.f0;have q3:=F0.f1;refine Z57 ?_;intro hov hatT hatG hatU hrest tn gn un;have ksl:=C.capS _ _ rfl;have kul:=C.capU _ _ rfl;unfold Y2I;by_cases h8:8<ts.length
 ·have d8:decide ((8:Int) < (ts.length:Int))=true:=Yel Z7;have HE:=hid (hov.out (.inl h8));clear h8 hov hatT hatG hatU hrest C;exact ZB
 have d8:decide ((8:Int) < (ts.length:Int))=false:=Yeh Z7;by_cases h4:4<gs.length
 ·have d4:decide ((4:Int) < (gs.length:Int))=true:=Yel Z7;have HE:=hid (hov.out (.inr (.inl h4)));clear h8 h4 hov hatT hatG hatU hrest C;exact ZB
 have d4:decide ((4:Int) < (gs.length:Int))=false:=Yeh Z7;by_cases hu8:8<us.length
 ·have du:decide ((8:Int) < (us.length:Int))=true:=Yel Z7;have HE:=hid (hov.out (.inr (.inr hu8)));clear h8 h4 hu8 hov hatT hatG hatU hrest C;exact ZB
 have du:decide ((8:Int) < (us.length:Int))=false:=Yeh Z7;have hno: ¬YbO ts gs us:=by unfold YbO;exact Z7
 have hatT:=hid (hatT.out hno);have hatG:=hid (hatG.out hno);have hatU:=hid (hatU.out hno);have hrest:=hid (hrest.out hno);have HF0:=hid F0;clear h8 h4 hu8 hov hno C q0 q1 q2 q3 F0;go_enter func49,ntmps49;go_wp2;have hpw:w.heap.size<W2.heap.size:=Z7;go_loopw [34] (fun i wr=>RQ1 ts W2.heap.size W2 i wr) (fun i _=>ts.length - (intOf i).toNat)
 case atStart=>exact Z2W
 case round =>
  obtain⟨k,hk,rfl,HA,hb⟩:=hrel;have hB:=hb.size;have bw:=b0.trans (hb.mono b0.size);have F:=HF0.out.below hb;have T0:=hid ((hb.cell (p:=⟨w.heap.size,0,none⟩) hpw).trans t0);refine Z1z ?_;intro T1 T2 T3 T4;have T5:=hid ((hb.cell (p:=⟨w.heap.size,5,none⟩) hpw).trans t5);have T6:=hid ((hb.cell (p:=⟨w.heap.size,6,none⟩) hpw).trans t6);have t0:=T0.out;have HT1:=hid (HC.out.ht.below bw);have hp1:w.heap.size<wr.heap.size:=Z7
  by_cases hlt:k<ts.length
  ·obtain⟨b,o,rfl,hbl,hcell⟩:=HT1.out.open_ Z7;have g0:=hcell k hlt;have hx:=HC.out.tl k hlt;have HGA:=hid (fun h0=>HA.out.step (k:=k) h0);have HAT:=hid (fun hb0=>hatT.out k hlt hb0 HA.out);have HBK:=hid (show Y8T ts k=if YF (ts.getD k [])=true∧(ts.take k).contains (ts.getD k [])=false then 0 else 5 from rfl);have ci:=fun W=>hid (Y2V (ts.getD k []) W hx)
   have ch:=fun W (hb:Below w.heap.size w W)=>hid (Y9i (some ⟨b,o,none⟩) ts.length tc ts (ts.getD k []) W (HC.out.ht.below hb) k hk tc tn)
   have hk64:(k:Int)≤(tc:Int):=Z7;clear hcell HT1;generalize ts.getD k []=x at *;generalize (ts.take k).contains x=cs at *
   cases hn:YF x with
   | false =>
    have hbk:Y8T ts k=5:=by rw[HBK.out,hn];rfl
    have HE:=hid (show Yt ts gs us sn ss lim own=(5,(k:Int)) from Z1j);rw[hn]at ci;clear hbk HBK HAT HGA hn ch;go_wp2_with fail;refine(ci _).out.mono ?_;rintro e w2 ⟨rfl,hb2⟩;have b2:=bw.trans (hb2.mono bw.size);have F2:=F.below hb2;have q0:=F2.c0;have q1:=F2.c1;have q2:=F2.f0;have q3:=F2.f1;go_wp2;refine Yej (v:= .agg #[.int .i64 5,.int .i64 (k:Nat)]) Z19 rfl ?_;exact⟨by rw[HE.out];rfl,(b2.setCell (p:=⟨w.heap.size+1,0,none⟩) Z2t _).setCell (p:=⟨w.heap.size+1,1,none⟩) Z2t _⟩
   | true =>
    rw[hn]at ci
    cases cs with
    | true =>
     have hbk:Y8T ts k=5:=by rw[HBK.out,hn];rfl
     have HE:=hid (show Yt ts gs us sn ss lim own=(5,(k:Int)) from Z1j);clear hbk HBK HAT HGA hn;go_wp2_with fail;refine(ci _).out.mono ?_;rintro e w2 ⟨rfl,hb2⟩;have b2:=bw.trans (hb2.mono bw.size);have F2:=F.below hb2;have g0:=(hb2.cell (p:=⟨b,(o+k),none⟩) hbl).trans g0;have t0:=(hb2.cell (p:=⟨w.heap.size,0,none⟩) hp1).trans t0;go_wp2_with fail;refine(ch _ b2).out.mono ?_;rintro e w3 ⟨rfl,hb3⟩
     have b3:=b2.trans (hb3.mono b2.size);have F3:=F2.below hb3;have q0:=F3.c0;have q1:=F3.c1;have q2:=F3.f0;have q3:=F3.f1;go_wp2;refine Yej (v:= .agg #[.int .i64 5,.int .i64 (k:Nat)]) Z19 rfl ?_;exact⟨by rw[HE.out];rfl,(b3.setCell (p:=⟨w.heap.size+1,0,none⟩) Z2t _).setCell (p:=⟨w.heap.size+1,1,none⟩) Z2t _⟩
    | false =>
     have hbk:Y8T ts k=0:=by rw[HBK.out,hn];rfl
     have HG2:=hid (HGA.out hbk);clear hbk HBK HAT HGA hn;go_wp2_with fail;refine(ci _).out.mono ?_;rintro e w2 ⟨rfl,hb2⟩;have b2:=bw.trans (hb2.mono bw.size);have F2:=F.below hb2;have g0:=(hb2.cell (p:=⟨b,(o+k),none⟩) hbl).trans g0;have t0:=(hb2.cell (p:=⟨w.heap.size,0,none⟩) hp1).trans t0;go_wp2_with fail;refine(ch _ b2).out.mono ?_;rintro e w3 ⟨rfl,hb3⟩;have b3:=b2.trans (hb3.mono b2.size);have F3:=F2.below hb3
     go_wp2;exact⟨⟨k+1,by omega,by go_num,hid HG2.out,(hb.trans (hb2.mono hB)).trans (hb3.mono (by have:=hb2.size;exact Z7))⟩,by simp[intOf];omega⟩
  ·obtain rfl:k=ts.length:=Z7;have HNT:=hid HA.out;have hatG:=hid (hatG.out HNT.out);have hatU:=hid (hatU.out HNT.out);have hrest:=hid (hrest.out HNT.out);have F1:=hid F;clear F hatT HT1 HA hb hB hlt t0 t1 t2 t3 t4 t5 t6 b0 HF0
   rename World=>wo
   have t1:=T1.out;go_wp2;go_loopw [57] (fun i wr=>RQ2 gs wo.heap.size wo i wr) (fun i _=>gs.length - (intOf i).toNat)
   case atStart=>exact Z2W
   case round =>
    obtain⟨k,hk,rfl,HA,hb⟩:=hrel;have hB:=hb.size;have bw2:=bw.trans (hb.mono bw.size);have F:=F1.out.below hb;have T0:=hid ((hb.cell (p:=⟨w.heap.size,0,none⟩) hp1).trans T0.out);have T1:=hid ((hb.cell (p:=⟨w.heap.size,1,none⟩) hp1).trans T1.out);refine Z4J ?_;intro T2 T3 T4;have T5:=hid ((hb.cell (p:=⟨w.heap.size,5,none⟩) hp1).trans T5.out);have T6:=hid ((hb.cell (p:=⟨w.heap.size,6,none⟩) hp1).trans T6.out)
    have t1:=T1.out;have HG1:=hid (HC.out.hg.below bw2);have hp2:w.heap.size<wr.heap.size:=Z7;by_cases hlt:k<gs.length
    ·obtain⟨_,b,o,c,hveq,hbl,hcell⟩:=HG1.out.open_.resolve_left Z1F
     cases hveq
     obtain⟨g0,g1⟩:=hcell k hlt;have hx:=HC.out.gl k hlt;have HGA:=hid (fun h0=>HA.out.step (k:=k) h0);have HAT:=hid (fun hb0=>hatG.out k hlt hb0 HA.out);have ci:=fun W=>hid (Y2V (gs.getD k ([],0)).1 W hx)
     have HBK:=hid (show Y9J gs k=if YF (gs.getD k ([],0)).1=false then 5 else if(gs.getD k ([],0)).2<0∨65535< (gs.getD k ([],0)).2 then 2 else 0 from rfl);clear hcell HG1;generalize gs.getD k ([],0)=x at *;obtain⟨x1,x2⟩:=x;simp only at *;obtain⟨W6,hW6⟩: ∃W6,wr.alloc (.cells #[.string (bs x1),.int .i64 x2] 111)=W6:=⟨_,rfl⟩;have hA6:Below wr.heap.size wr W6:=Z2O;have b6:=bw2.trans (hA6.mono bw2.size)
     have F6:=F.below hA6;have p0:W6.cell? ⟨wr.heap.size,0,none⟩=some (.string (bs x1)):=Z1s;have p1:W6.cell? ⟨wr.heap.size,1,none⟩=some (.int .i64 x2):=Z1s;refine Z3r ?_;intro hlt6
     cases hn:YF x1 with
     | false =>
      have hbk:Y9J gs k=5:=by rw[HBK.out,hn];rfl
      have HE:=hid (show Yt ts gs us sn ss lim own=(5,(k:Int)) from Z1j);rw[hn]at ci;clear hbk HBK HAT HGA hn;go_wp2_with fail;refine(ci _).out.mono ?_;rintro e w2 ⟨rfl,hb2⟩;have b2:=b6.trans (hb2.mono b6.size);have F2:=F6.below hb2;have q0:=F2.c0;have q1:=F2.c1;have q2:=F2.f0;have q3:=F2.f1;go_wp2;refine Yej (v:= .agg #[.int .i64 5,.int .i64 (k:Nat)]) Z19 rfl ?_;exact⟨by rw[HE.out];rfl,(b2.setCell (p:=⟨w.heap.size+1,0,none⟩) Z2t _).setCell (p:=⟨w.heap.size+1,1,none⟩) Z2t _⟩
     | true =>
      rw[hn]at ci;by_cases hzz:x2<0∨65535<x2
      ·have hbk:Y9J gs k=2:=by rw[HBK.out,hn,Yed Z2t,Yei hzz]
       have HE:=hid (show Yt ts gs us sn ss lim own=(2,(k:Int)) from Z1j);have cw:=fun W=>hid (YZ x2 0 65535 W hzz)
       clear hbk HBK HAT HGA hn hzz;go_wp2_with fail;refine(ci _).out.mono ?_;rintro e w2 ⟨rfl,hb2⟩;have b2:=b6.trans (hb2.mono b6.size);have F2:=F6.below hb2;have p0:=(hb2.cell (p:=⟨wr.heap.size,0,none⟩) hlt6).trans p0;have p1:=(hb2.cell (p:=⟨wr.heap.size,1,none⟩) hlt6).trans p1;go_wp2_with fail;refine(cw _).out.mono ?_;rintro e w3 ⟨rfl,hw3⟩;have hv3:=hw3.symm;clear hw3;subst hv3;have q0:=F2.c0;have q1:=F2.c1
       have q2:=F2.f0;have q3:=F2.f1;go_wp2;refine Yej (v:= .agg #[.int .i64 2,.int .i64 (k:Nat)]) Z19 rfl ?_;exact⟨by rw[HE.out];rfl,(b2.setCell (p:=⟨w.heap.size+1,0,none⟩) Z2t _).setCell (p:=⟨w.heap.size+1,1,none⟩) Z2t _⟩
      ·have hbk:Y9J gs k=0:=by rw[HBK.out,hn,Yed Z2t,Yed hzz]
       have HG2:=hid (HGA.out hbk);have cw:=fun W=>hid (YK x2 0 65535 W Z7 Z7)
       clear hbk HBK HAT HGA hn hzz;go_wp2_with fail;refine(ci _).out.mono ?_;rintro e w2 ⟨rfl,hb2⟩;have b2:=b6.trans (hb2.mono b6.size);have F2:=F6.below hb2;have p0:=(hb2.cell (p:=⟨wr.heap.size,0,none⟩) hlt6).trans p0;have p1:=(hb2.cell (p:=⟨wr.heap.size,1,none⟩) hlt6).trans p1;go_wp2_with fail;refine(cw _).out.mono ?_;rintro e w3 ⟨rfl,hw3⟩;have hv3:=hw3.symm;clear hw3;subst hv3;go_wp2;exact⟨⟨k+1,by omega,by go_num,hid HG2.out,(hb.trans (hA6.mono hB)).trans (hb2.mono Z7)⟩,by simp[intOf];omega⟩
    ·obtain rfl:k=gs.length:=Z7;have HNG:=hid HA.out;have hatU:=hid (hatU.out HNG.out);have hrest:=hid (hrest.out HNG.out);have F2:=hid F;clear F hatG HG1 HA hb hB bw hlt t1 F1
     rename World=>wo2
     have t2:=T2.out;go_wp2;go_loopw [78] (fun i wr=>RQ3 us wo2.heap.size wo2 i wr) (fun i _=>us.length - (intOf i).toNat)
     case atStart=>exact Z2W
     case round =>
      obtain⟨k,hk,rfl,HA,hb⟩:=hrel;have hB:=hb.size;have bw3:=bw2.trans (hb.mono bw2.size);have F:=F2.out.below hb;have T0:=hid ((hb.cell (p:=⟨w.heap.size,0,none⟩) hp2).trans T0.out);have T1:=hid ((hb.cell (p:=⟨w.heap.size,1,none⟩) hp2).trans T1.out);have T2:=hid ((hb.cell (p:=⟨w.heap.size,2,none⟩) hp2).trans T2.out);have T3:=hid ((hb.cell (p:=⟨w.heap.size,3,none⟩) hp2).trans T3.out);have T4:=hid ((hb.cell (p:=⟨w.heap.size,4,none⟩) hp2).trans T4.out)
      have T5:=hid ((hb.cell (p:=⟨w.heap.size,5,none⟩) hp2).trans T5.out);have T6:=hid ((hb.cell (p:=⟨w.heap.size,6,none⟩) hp2).trans T6.out);have HU1:=hid (HC.out.hu.below bw3);have hp3:w.heap.size<wr.heap.size:=Z7;by_cases hlt:k<us.length
      ·obtain⟨_,b,o,c,hveq,hbl,hcell⟩:=HU1.out.open_.resolve_left Z1F
       cases hveq
       obtain⟨g0,g1⟩:=hcell k hlt;have Hcell:=hid hcell;have hx:=HC.out.ul k hlt;have HGA:=hid (fun h0=>HA.out.step (k:=k) h0);have HAT:=hid (fun hb0=>hatU.out k hlt hb0 HA.out);have ct1:=fun W=>hid (Y2V (us.getD k ([],[])).1 W hx.1)
       have ct2:=fun W=>hid (Y2V (us.getD k ([],[])).2 W hx.2)
       have HBK:=hid (show Y7L us k=if YF (us.getD k ([],[])).1=true∧YF (us.getD k ([],[])).2=true∧((us.take k).map (·.1)).contains (us.getD k ([],[])).1=false then 0 else 5 from rfl);have hk64:(k:Int)≤(uc:Int):=Z7;clear hcell hx;generalize us.getD k ([],[])=x at *;obtain⟨x1,x2⟩:=x;simp only at *;obtain⟨W6,hW6⟩: ∃W6,wr.alloc (.cells #[.string (bs x1),.string (bs x2)] 26)=W6:=⟨_,rfl⟩;have hA6:Below wr.heap.size wr W6:=Z2O
       have b6:=bw3.trans (hA6.mono bw3.size);have F6:=F.below hA6;refine Zp ?_;intro p0 p1;have t2:=(hA6.cell (p:=⟨w.heap.size,2,none⟩) hp3).trans T2.out;refine Z3r ?_;intro hlt6;have HTW:=hid (Ybx us x1);have hB6:=hb.trans (hA6.mono hB);have Hbl:=hid (hA6.size);go_wp2;generalize hpb:wr.heap.size=pb at *;clear hW6;go_loopw [9,88] (fun t i wr=>RQ4 us x1 k W6.heap.size W6 t i wr) (fun _ i _=>k - (intOf i).toNat)
       case atStart=>exact Z1g
       case round =>
        obtain⟨j,hj,rfl,rfl,hc⟩:=hrel;have hC:=hc.size;have p0:=(hc.cell (p:=⟨pb,0,none⟩) hlt6).trans p0;have p1:=(hc.cell (p:=⟨pb,1,none⟩) hlt6).trans p1;by_cases hjk:j<k
        ·obtain⟨c0,c1⟩:=Hcell.out j Z7;have c0:=(hA6.cell (p:=⟨b,o+j * 2,none⟩) hbl).trans c0;have c1:=(hA6.cell (p:=⟨b,o+j * 2+1,none⟩) hbl).trans c1;have hbw:b<W6.heap.size:=by have:=Hbl.out;exact Z7
         have c0:=(hc.cell (p:=⟨b,o+j * 2,none⟩) hbw).trans c0;have c1:=(hc.cell (p:=⟨b,o+j * 2+1,none⟩) hbw).trans c1;have hlt7:pb<wr.heap.size:=Yee hlt6 hC;have HTJ:=hid (HTW.out j Z7);generalize us.getD j ([],[])=y at *;obtain⟨y1,y2⟩:=y;simp only at *
         cases htj:((us.take j).map (·.1)).contains x1 with
         | true =>
          rw[htj]at HTJ;go_wp2;exact⟨⟨j+1,by omega,by go_num,by rw[HTJ.out];rfl,hc.alloc hC _⟩,by simp[intOf];omega⟩
         | false =>
          rw[htj]at HTJ;go_wp2;exact⟨⟨j+1,by omega,by go_num,by rw[HTJ.out];rfl,hc.alloc hC _⟩,by simp[intOf];omega⟩
        ·obtain rfl:j=k:=Z7;have F7:=F6.below hc;have b7:=b6.trans (hc.mono b6.size);have hlt7:pb<wr.heap.size:=Yee hlt6 hC;clear HTW hjk;generalize ((us.take j).map (·.1)).contains x1=tw at *
         cases tw with
         | true =>
          have hbk:Y7L us j=5:=by rw[HBK.out,Yed Z2t]
          have HE:=hid (show Yt ts gs us sn ss lim own=(5,(j:Int)) from Z1j);clear hbk HBK HAT HGA;have q0:=F7.c0;have q1:=F7.c1;have q2:=F7.f0;have q3:=F7.f1;go_wp2;refine Yej (v:= .agg #[.int .i64 5,.int .i64 (j:Nat)]) Z19 rfl ?_;exact⟨by rw[HE.out];rfl,(b7.setCell (p:=⟨w.heap.size+1,0,none⟩) Z2t _).setCell (p:=⟨w.heap.size+1,1,none⟩) Z2t _⟩
         | false =>
          cases hn1:YF x1 with
          | false =>
           have hbk:Y7L us j=5:=by rw[HBK.out,hn1];rfl
           have HE:=hid (show Yt ts gs us sn ss lim own=(5,(j:Int)) from Z1j);rw[hn1]at ct1;clear hbk HBK HAT HGA hn1;go_wp2_with fail;refine(ct1 _).out.mono ?_;rintro e w2 ⟨rfl,hb2⟩;have b2:=b7.trans (hb2.mono b7.size);have F2:=F7.below hb2;have q0:=F2.c0;have q1:=F2.c1;have q2:=F2.f0;have q3:=F2.f1;go_wp2;refine Yej (v:= .agg #[.int .i64 5,.int .i64 (j:Nat)]) Z19 rfl ?_;exact⟨by rw[HE.out];rfl,(b2.setCell (p:=⟨w.heap.size+1,0,none⟩) Z2t _).setCell (p:=⟨w.heap.size+1,1,none⟩) Z2t _⟩
          | true =>
           rw[hn1]at ct1
           cases hn2:YF x2 with
           | false =>
            have hbk:Y7L us j=5:=by rw[HBK.out,hn1,hn2];rfl
            have HE:=hid (show Yt ts gs us sn ss lim own=(5,(j:Int)) from Z1j);rw[hn2]at ct2;clear hbk HBK HAT HGA hn1 hn2;go_wp2_with fail;refine(ct1 _).out.mono ?_;rintro e w2 ⟨rfl,hb2⟩;have b2:=b7.trans (hb2.mono b7.size);have F2:=F7.below hb2;have p0:=(hb2.cell (p:=⟨pb,0,none⟩) hlt7).trans p0;have p1:=(hb2.cell (p:=⟨pb,1,none⟩) hlt7).trans p1;go_wp2_with fail;refine(ct2 _).out.mono ?_;rintro e w3 ⟨rfl,hb3⟩
            have b3:=b2.trans (hb3.mono b2.size);have F3:=F2.below hb3;have q0:=F3.c0;have q1:=F3.c1;have q2:=F3.f0;have q3:=F3.f1;go_wp2;refine Yej (v:= .agg #[.int .i64 5,.int .i64 (j:Nat)]) Z19 rfl ?_;exact⟨by rw[HE.out];rfl,(b3.setCell (p:=⟨w.heap.size+1,0,none⟩) Z2t _).setCell (p:=⟨w.heap.size+1,1,none⟩) Z2t _⟩
           | true =>
            have hbk:Y7L us j=0:=by rw[HBK.out,hn1,hn2];rfl
            have HG2:=hid (HGA.out hbk);rw[hn2]at ct2;clear hbk HBK HAT HGA hn1 hn2;go_wp2_with fail;refine(ct1 _).out.mono ?_;rintro e w2 ⟨rfl,hb2⟩;have b2:=b7.trans (hb2.mono b7.size);have F2:=F7.below hb2;have p0:=(hb2.cell (p:=⟨pb,0,none⟩) hlt7).trans p0;have p1:=(hb2.cell (p:=⟨pb,1,none⟩) hlt7).trans p1;go_wp2_with fail;refine(ct2 _).out.mono ?_;rintro e w3 ⟨rfl,hb3⟩;have b3:=b2.trans (hb3.mono b2.size)
            have F3:=F2.below hb3;go_wp2;have hz2:=hb2.size;exact⟨⟨j+1,by omega,by go_num,hid HG2.out,((hB6.trans (hc.mono (by have:=hB6.size;exact Z7))).trans (hb2.mono Z7)).trans (hb3.mono Z7)⟩,by simp[intOf];omega⟩
      ·obtain rfl:k=us.length:=Z7;have HNU:=hid HA.out;have hrest:=hid (hrest.out HNU.out);have hsn:=HC.out.snl;have hss:=HC.out.ssl;have cnew:=fun W (hb:Below w.heap.size w W)=>YaS _ own W (HC.out.ho.below hb) HC.out.pbd hon hsz (hP.below hb (Ye9 _))
       unfold Y5g at cnew;have ct1:=fun W=>hid (Y2V sn W hsn)
       have ct2:=fun W=>hid (Y2V ss W hss)
       have t3:=T3.out;have t4:=T4.out;have t5:=T5.out;have t6:=T6.out;have F3:=F;have Cnew:=hid cnew;clear cnew hatU HU1 HA hb hB bw2 hlt HNT HNG HNU F2 F;have hcat:(sn ++ ss == [])=(sn.length+ss.length == 0):=by cases sn<;>cases ss<;>simp
       by_cases he0:sn.length+ss.length=0
       ·have HR:=hid (show Yt ts gs us sn ss lim own=if lim<512∨100000<lim then(2,-1)else Y1j own by rw[hrest.out,Yed (by unfold Y40;rw[Yfb.2 he0];exact Z2t)]);have hem:(sn ++ ss == [])=true:=by rw[hcat,Yfb.2 he0]
        clear hrest he0 hcat ct1 ct2;by_cases hl:lim<512∨100000<lim
        ·have cw:=fun W=>hid (YZ lim 512 100000 W hl)
         have HE:=hid (show Yt ts gs us sn ss lim own=(2,-1) by rw[HR.out,Yei hl]);clear HR hl;go_wp2_with fail;refine(cw _).out.mono ?_;rintro e w8 ⟨rfl,hw8⟩;have hv8:=hw8.symm;clear hw8;subst hv8;go_wp2_with fail;refine(Y27 _ _).mono ?_;rintro e w9 ⟨rfl,hb9⟩;have F9:=F3.below hb9;have b9:=bw3.trans (hb9.mono bw3.size);have q0:=F9.c0;have q1:=F9.c1;have q2:=F9.f0;have q3:=F9.f1;go_wp2
         refine Yej (v:= .agg #[.int .i64 2,.int .i64 (-1)]) Z19 rfl ?_;exact⟨by rw[HE.out];rfl,(b9.setCell (p:=⟨w.heap.size+1,0,none⟩) Z2t _).setCell (p:=⟨w.heap.size+1,1,none⟩) Z2t _⟩
        have cw:=fun W=>hid (YK lim 512 100000 W Z7 Z7)
        have HE:=hid (show Yt ts gs us sn ss lim own=Y1j own by rw[HR.out,Yed hl]);have cn:=fun W hb=>hid (Cnew.out W hb)
        unfold YS at cn;clear HR hl;go_wp2_with fail;refine(cw _).out.mono ?_;rintro e w8 ⟨rfl,hw8⟩;have hv8:=hw8.symm;clear hw8;subst hv8;go_wp2_with fail;refine(cn _ bw3).out.mono ?_;rintro e w9 ⟨⟨p,rfl,_,_⟩,hb9⟩;have F9:=F3.below hb9;have b9:=bw3.trans (hb9.mono bw3.size);have bA:=b9.alloc b9.size (.cells #[.int .i64 ((Y1j own).1:Nat),.int .i64 (Y1j own).2] 38);have FA:=F9.below ((Yea _ _).alloc (Ye9 _) (.cells #[.int .i64 ((Y1j own).1:Nat),.int .i64 (Y1j own).2] 38))
        have q0:=FA.c0;have q1:=FA.c1;have q2:=FA.f0;have q3:=FA.f1;go_wp2;refine Yej (v:= .agg #[.int .i64 ((Y1j own).1:Nat),.int .i64 (Y1j own).2]) Z19 rfl ?_;exact⟨by rw[HE.out];rfl,(bA.setCell (p:=⟨w.heap.size+1,0,none⟩) Z2t _).setCell (p:=⟨w.heap.size+1,1,none⟩) Z2t _⟩
       ·have hbe:(sn.length+ss.length == 0)=false:=Yen.2 he0;have hem:(sn ++ ss == [])=false:=by rw[hcat,hbe]
        have HSB:=hid (show Y40 sn ss= !(YF sn && YF ss) by unfold Y40;rw[hbe];rfl);clear hbe he0 hcat
        cases hn1:YF sn with
        | false =>
         have HE:=hid (show Yt ts gs us sn ss lim own=(3,-1) by rw[hrest.out,HSB.out,hn1,Yei (by rfl)]);rw[hn1]at ct1;clear hrest HSB hn1 ct2;go_wp2_with fail;refine(ct1 _).out.mono ?_;rintro e w2 ⟨rfl,hb2⟩;have b2:=bw3.trans (hb2.mono bw3.size);have F2:=F3.below hb2;go_wp2_with fail;refine(Y27 _ _).mono ?_;rintro e w9 ⟨rfl,hb9⟩;have F9:=F2.below hb9;have b9:=b2.trans (hb9.mono b2.size)
         have q0:=F9.c0;have q1:=F9.c1;have q2:=F9.f0;have q3:=F9.f1;go_wp2;refine Yej (v:= .agg #[.int .i64 3,.int .i64 (-1)]) Z19 rfl ?_;exact⟨by rw[HE.out];rfl,(b9.setCell (p:=⟨w.heap.size+1,0,none⟩) Z2t _).setCell (p:=⟨w.heap.size+1,1,none⟩) Z2t _⟩
        | true =>
         rw[hn1]at ct1
         cases hn2:YF ss with
         | false =>
          have HE:=hid (show Yt ts gs us sn ss lim own=(3,-1) by rw[hrest.out,HSB.out,hn1,hn2,Yei (by rfl)]);rw[hn2]at ct2;clear hrest HSB hn1 hn2;go_wp2_with fail;refine(ct1 _).out.mono ?_;rintro e w2 ⟨rfl,hb2⟩;have b2:=bw3.trans (hb2.mono bw3.size);have F2:=F3.below hb2;have t4:=(hb2.cell (p:=⟨w.heap.size,4,none⟩) hp3).trans t4;go_wp2_with fail;refine(ct2 _).out.mono ?_;rintro e w4 ⟨rfl,hb4⟩
          have b4:=b2.trans (hb4.mono b2.size);have F4:=F2.below hb4;go_wp2_with fail;refine(Y27 _ _).mono ?_;rintro e w9 ⟨rfl,hb9⟩;have F9:=F4.below hb9;have b9:=b4.trans (hb9.mono b4.size);have q0:=F9.c0;have q1:=F9.c1;have q2:=F9.f0;have q3:=F9.f1;go_wp2;refine Yej (v:= .agg #[.int .i64 3,.int .i64 (-1)]) Z19 rfl ?_;exact⟨by rw[HE.out];rfl,(b9.setCell (p:=⟨w.heap.size+1,0,none⟩) Z2t _).setCell (p:=⟨w.heap.size+1,1,none⟩) Z2t _⟩
         | true =>
          have HR:=hid (show Yt ts gs us sn ss lim own=if lim<512∨100000<lim then(2,-1)else Y1j own by rw[hrest.out,HSB.out,hn1,hn2,Yed Z2t]);rw[hn2]at ct2;clear hrest HSB hn1 hn2;go_wp2_with fail;refine(ct1 _).out.mono ?_;rintro e w2 ⟨rfl,hb2⟩;have b2:=bw3.trans (hb2.mono bw3.size);have F2:=F3.below hb2;have t4:=(hb2.cell (p:=⟨w.heap.size,4,none⟩) hp3).trans t4;have t5:=(hb2.cell (p:=⟨w.heap.size,5,none⟩) hp3).trans t5
          have t6:=(hb2.cell (p:=⟨w.heap.size,6,none⟩) hp3).trans t6;have hp4:w.heap.size<w2.heap.size:=Yee hp3 hb2.size;go_wp2_with fail;refine(ct2 _).out.mono ?_;rintro e w4 ⟨rfl,hb4⟩;have b4:=b2.trans (hb4.mono b2.size);have F4:=F2.below hb4;have t5:=(hb4.cell (p:=⟨w.heap.size,5,none⟩) hp4).trans t5;have t6:=(hb4.cell (p:=⟨w.heap.size,6,none⟩) hp4).trans t6;by_cases hl:lim<512∨100000<lim
          ·have cw:=fun W=>hid (YZ lim 512 100000 W hl)
           have HE:=hid (show Yt ts gs us sn ss lim own=(2,-1) by rw[HR.out,Yei hl]);clear HR hl;go_wp2_with fail;refine(cw _).out.mono ?_;rintro e w8 ⟨rfl,hw8⟩;have hv8:=hw8.symm;clear hw8;subst hv8;go_wp2_with fail;refine(Y27 _ _).mono ?_;rintro e w9 ⟨rfl,hb9⟩;have F9:=F4.below hb9;have b9:=b4.trans (hb9.mono b4.size);have q0:=F9.c0;have q1:=F9.c1;have q2:=F9.f0;have q3:=F9.f1;go_wp2
           refine Yej (v:= .agg #[.int .i64 2,.int .i64 (-1)]) Z19 rfl ?_;exact⟨by rw[HE.out];rfl,(b9.setCell (p:=⟨w.heap.size+1,0,none⟩) Z2t _).setCell (p:=⟨w.heap.size+1,1,none⟩) Z2t _⟩
          have cw:=fun W=>hid (YK lim 512 100000 W Z7 Z7)
          have HE:=hid (show Yt ts gs us sn ss lim own=Y1j own by rw[HR.out,Yed hl]);have cn:=fun W hb=>hid (Cnew.out W hb)
          unfold YS at cn;clear HR hl;go_wp2_with fail;refine(cw _).out.mono ?_;rintro e w8 ⟨rfl,hw8⟩;have hv8:=hw8.symm;clear hw8;subst hv8;go_wp2_with fail;refine(cn _ b4).out.mono ?_;rintro e w9 ⟨⟨p,rfl,_,_⟩,hb9⟩;have F9:=F4.below hb9;have b9:=b4.trans (hb9.mono b4.size);have bA:=b9.alloc b9.size (.cells #[.int .i64 ((Y1j own).1:Nat),.int .i64 (Y1j own).2] 38);have FA:=F9.below ((Yea _ _).alloc (Ye9 _) (.cells #[.int .i64 ((Y1j own).1:Nat),.int .i64 (Y1j own).2] 38))
          have q0:=FA.c0;have q1:=FA.c1;have q2:=FA.f0;have q3:=FA.f1;go_wp2;refine Yej (v:= .agg #[.int .i64 ((Y1j own).1:Nat),.int .i64 (Y1j own).2]) Z19 rfl ?_;exact⟨by rw[HE.out];rfl,(bA.setCell (p:=⟨w.heap.size+1,0,none⟩) Z2t _).setCell (p:=⟨w.heap.size+1,1,none⟩) Z2t _⟩
end
end
section
open Go.Proofs.Tryz
open Go Go.RowKit
def Y14(p ta ga ua oa:Value)(sn ss:List UInt8)(lim:Int)(name:List UInt8)(disc:Bool)(stat cmd:Int)(gp left:Value)(closed:Bool):Array Value:=
 #[p,ta,ga,ua,.string (bs sn),.string (bs ss),.int .i64 lim,oa,.string (bs name),.bool disc,.int .u32 stat,.int .u32 cmd,gp,left,.bool closed]
theorem gNewF(m:Int)(h0: ¬m<0)(h1: ¬20000<m)(w:World):
 Calls prog 51 #[.int .i64 m] w fun e w'=>e= .returned (.tuple #[.pointer (some ⟨w.heap.size,0,none⟩),.nilIface])∧w'=w.alloc (.cells #[.string ⟨#[]⟩,.int .i64 m] 215):=by
 go_enter func51,ntmps51;go_wp2;go_ret2;exact⟨rfl,rfl⟩
theorem Y9j{w w':World}{B:Nat}(h:Below B w w')(hB:w.heap.size≤B)(r:Option Nat):w.grownBy w' r:=⟨h.os,h.tape,h.output,h.size,fun k hk _=>h.block k (Yee hk hB)⟩
theorem Y8e{w w1 w2:World}{r:Option Nat}(h:w.grownBy w1 r)(h2:w1.grownBy w2 r):w.grownBy w2 r:=
 ⟨h2.os.trans h.os,h2.tape.trans h.tape,h2.output.trans h.output,Yeu h.size h2.size,fun k hk hne=>(h2.block k (Yee hk h.size) hne).trans (h.block k hk hne)⟩
theorem YdC{w w':World}{g:Nat}(h:w.grownBy w' (some g))(i:Nat)(v:Value):w.grownBy (w'.setCell ⟨g,i,none⟩ v) (some g):=
 Y8e h ⟨rfl,rfl,rfl,by simp[World.setCell],fun k hk hne=>YeN w' ⟨g,i,none⟩ v k (by rintro rfl;exact hne rfl)⟩
theorem Y1k{W:World}{b b':Nat}{t:TypeId}{cs:Array Value}(h:Blk W b' t cs)(i:Nat)(u:Value)(hn:b'≠b):Blk (W.setCell ⟨b,i,none⟩ u) b' t cs:=(YeN W ⟨b,i,none⟩ u b' hn).trans h
theorem belowGN{B:Nat}{w a b:World}{g:Nat}(h:Below B w a)(h2:a.grownBy b (some g))(hg:B≤g)(hB:B≤a.heap.size):Below B w b:=
 h.grown h2 hB (fun k hk=>by cases hk;exact hg)
def Y9I(T TG:TypeId)(p ta ga ua oa:Value)(sn ss:List UInt8)(lim:Int)(name:List UInt8)(disc:Bool)(stat cmd:Int)(B g:Nat)(w:World):Prop:=
 ∃gg,B≤g∧B≤gg∧gg≠g∧Blk w g T (Y14 p ta ga ua oa sn ss lim name disc stat cmd (.pointer (some ⟨gg,0,none⟩)) (.slice none 0 0) false)∧Blk w gg TG #[.string ⟨#[]⟩,.int .i64 8192]
theorem Z1M{P Q:Prop}(k:Q)(h:Q→P:=by
 have hs1:=hb1.size
 have t0:=(hb1.cell (p:=⟨w.heap.size,0,none⟩) Zt).trans t0
 have t1:=(hb1.cell (p:=⟨w.heap.size,1,none⟩) Zt).trans t1
 have t2:=(hb1.cell (p:=⟨w.heap.size,2,none⟩) Zt).trans t2
 have t3:=(hb1.cell (p:=⟨w.heap.size,3,none⟩) Zt).trans t3
 have t4:=(hb1.cell (p:=⟨w.heap.size,4,none⟩) Zt).trans t4
 have t5:=(hb1.cell (p:=⟨w.heap.size,5,none⟩) Zt).trans t5
 have t6:=(hb1.cell (p:=⟨w.heap.size,6,none⟩) Zt).trans t6
 refine fun z_=>?_
 revert t6;revert t5;revert t4;revert t3;revert t2;revert t1;revert t0;revert hs1
 exact z_):P:=h k
theorem Z3C{P:Prop}(h:P:=by
 simp[Y1g]):P:=h
theorem Z3J{P:Prop}(h:P:=by
 intro y
 exact Za):P:=h
section
variable (ta ga ua oa:Option Addr)(tc gc uc oc:Nat)(ts:List (List UInt8))(gs:GL)(us:PL)(sn ss:List UInt8)(lim:Int)(own:PL)(p:Value)(name:List UInt8)(disc:Bool)(stat cmd:Int)(w:World)
 (C:YD w ts gs us sn ss lim own (.slice ta ts.length tc) (.slice ga gs.length gc) (.slice ua us.length uc) (.slice oa own.length oc))
 (hsz: ∀k,(own.getD k ([],[])).2.length≤100000)
include C hsz
def Ybv(p ta ga ua oa:Value)(sn ss:List UInt8)(lim:Int)(name:List UInt8)(disc:Bool)(stat cmd:Int)(R:Nat×Int)(w:World)(e:Ending)(w':World):Prop:=
 (∃q er,e= .returned (.tuple #[.pointer q,er])∧Y1c w' er R.1 R.2∧(R.1≠0→q=none)∧(R.1=0→ ∃g,q=some ⟨g,0,none⟩∧Y9I 82 215 p ta ga ua oa sn ss lim name disc stat cmd w.heap.size g w'))∧Below w.heap.size w w'
theorem fNew_any(pp:Option Addr)(hg:Y2e w)(hT:AS w)(hev:EV w):
 Calls prog 15 #[Y2I (.slice ta ts.length tc) (.slice ga gs.length gc) (.slice ua us.length uc) (.slice oa own.length oc) sn ss lim,.pointer pp,.string (bs name),.bool disc,.int .u32 stat,.int .u32 cmd] w fun e w' =>
  Ybv (.pointer pp) (.slice ta ts.length tc) (.slice ga gs.length gc) (.slice ua us.length uc) (.slice oa own.length oc) sn ss lim name disc stat cmd (Yt ts gs us sn ss lim own) w e w':=by
 refine Z8 ?_;intro W1 hW1 b1 t0 t1 t2 t3 t4 t5 t6 z1;have ct:=hid (Yby ta ga ua oa tc gc uc oc ts gs us sn ss lim own W1 (C.below b1) hsz (hg.below b1) (hT.below b1 (Ye9 _)) (hev.below b1));have cg:=fun W=>hid (gNewF 8192 Z7 Z7 W)
 generalize Yt ts gs us sn ss lim own=R at *;unfold ErrP at ct;unfold Y2I at ct ⊢;clear C hsz hg hT hev;go_enter func15,ntmps15;go_wp2_with fail;refine ct.out.mono ?_;rintro e w1 ⟨⟨er,rfl,her⟩,hb1⟩;have b2:=b1.trans (hb1.mono b1.size);refine Z1M ?_;intro hs1 t0 t1 t2 t3 t4 t5 t6;clear hW1;by_cases h0:R.1=0
 ·obtain rfl:=Y2A her h0;have HER:=hid her;clear her;go_wp2_with fail;refine(cg _).out.mono ?_;rintro e w2 ⟨rfl,hw2⟩;have hb2:Below w1.heap.size w1 w2:=by rw[hw2];exact Ze
  have G2:Blk w2 w1.heap.size 215 #[.string ⟨#[]⟩,.int .i64 8192]:=by rw[hw2];exact Blk.new _ _ _
  have b3:=b2.trans (hb2.mono b2.size);have t0:=(hb2.cell (p:=⟨w.heap.size,0,none⟩) Zt).trans t0;have t1:=(hb2.cell (p:=⟨w.heap.size,1,none⟩) Zt).trans t1;have t2:=(hb2.cell (p:=⟨w.heap.size,2,none⟩) Zt).trans t2;have t3:=(hb2.cell (p:=⟨w.heap.size,3,none⟩) Zt).trans t3;have t4:=(hb2.cell (p:=⟨w.heap.size,4,none⟩) Zt).trans t4;have t5:=(hb2.cell (p:=⟨w.heap.size,5,none⟩) Zt).trans t5;have t6:=(hb2.cell (p:=⟨w.heap.size,6,none⟩) Zt).trans t6
  clear hw2;have h12:=G2.lt;go_wp2;go_ret2;have hb4:=(Yea w2.heap.size w2).alloc (Ye9 _) (.cells (Y14 (.pointer pp) (.slice ta ts.length tc) (.slice ga gs.length gc) (.slice ua us.length uc) (.slice oa own.length oc) sn ss lim name disc stat cmd (.pointer (some ⟨w1.heap.size,0,none⟩)) (.slice none 0 0) false) 82);refine⟨⟨_,_,rfl,HER.out.below (hb2.trans (hb4.mono hb2.size)),fun h=>absurd h0 h,fun _=>⟨_,rfl,w1.heap.size,by omega,by omega,by omega,?_,G2.below hb4⟩⟩,b3.trans (hb4.mono b3.size)⟩
  exact Blk.new w2 82 (Y14 (.pointer pp) (.slice ta ts.length tc) (.slice ga gs.length gc) (.slice ua us.length uc) (.slice oa own.length oc) sn ss lim name disc stat cmd (.pointer (some ⟨w1.heap.size,0,none⟩)) (.slice none 0 0) false)
 ·obtain⟨T,x,rfl⟩:=Y3D her h0;have HER:=hid her;clear her;go_wp2;go_ret2;exact⟨⟨_,_,rfl,HER.out,fun _=>rfl,fun h=>absurd h h0⟩,b2⟩
def Y9B(p ta ga ua oa:Value)(sn ss:List UInt8)(lim:Int)(name:List UInt8)(disc:Bool)(stat cmd:Int)(R:Nat×Int)(w:World)(e:Ending)(w':World):Prop:=
 (∃q,e= .returned (.tuple #[.pointer q,YS R.1 R.2])∧(R.1≠0→q=none)∧(R.1=0→ ∃g,q=some ⟨g,0,none⟩∧Y9I 75 143 p ta ga ua oa sn ss lim name disc stat cmd w.heap.size g w'))∧Below w.heap.size w w'
theorem YcW(pp:Option Addr)(hon:own.length≤100000)(hP:PT w)(hR:(Yt ts gs us sn ss lim own).1=0→(Yt ts gs us sn ss lim own).2= -1):
 Calls prog 14 #[Y2I (.slice ta ts.length tc) (.slice ga gs.length gc) (.slice ua us.length uc) (.slice oa own.length oc) sn ss lim,.pointer pp,.string (bs name),.bool disc,.int .u32 stat,.int .u32 cmd] w fun e w' =>
  Y9B (.pointer pp) (.slice ta ts.length tc) (.slice ga gs.length gc) (.slice ua us.length uc) (.slice oa own.length oc) sn ss lim name disc stat cmd (Yt ts gs us sn ss lim own) w e w':=by
 refine Z8 ?_;intro W1 hW1 b1 t0 t1 t2 t3 t4 t5 t6 z1;refine Z4P ?_;intro W2 hW2 F0;have hb0:Below W1.heap.size W1 W2:=Z4F;have b2:=b1.trans (hb0.mono b1.size);have z2:W2.heap.size=w.heap.size+2:=by rw[←hW2];simp[z1]
 have t0:=(hb0.cell (p:=⟨w.heap.size,0,none⟩) Zt).trans t0;have t1:=(hb0.cell (p:=⟨w.heap.size,1,none⟩) Zt).trans t1;have t2:=(hb0.cell (p:=⟨w.heap.size,2,none⟩) Zt).trans t2;have t3:=(hb0.cell (p:=⟨w.heap.size,3,none⟩) Zt).trans t3;have t4:=(hb0.cell (p:=⟨w.heap.size,4,none⟩) Zt).trans t4;have t5:=(hb0.cell (p:=⟨w.heap.size,5,none⟩) Zt).trans t5;have t6:=(hb0.cell (p:=⟨w.heap.size,6,none⟩) Zt).trans t6
 have ct:=hid (Ya2 ta ga ua oa tc gc uc oc ts gs us sn ss lim own W2 (C.below b2) hsz hon (hP.below b2 (Ye9 _)));have cis:=fun k pl W=>hid (Y1u k pl W)
 have cgd:=fun W=>hid (Y1O W)
 generalize Yt ts gs us sn ss lim own=R at *;obtain⟨R1,R2⟩:=R;simp only at *;unfold FaultP YS at ct;unfold YS at cis;unfold Y2I at ct ⊢;clear C hsz hP;go_enter func14,ntmps14;go_wp2_with fail;refine ct.out.mono ?_;rintro e w1 ⟨rfl,hb1⟩;have b3:=b2.trans (hb1.mono b2.size);refine Z1M ?_;intro hs1 t0 t1 t2 t3 t4 t5 t6;have F1:=F0.below hb1;clear hW1 hW2;simp only at *;obtain⟨w2,hw2⟩: ∃w2,w1.alloc (.cells #[.int .i64 (R1:Nat),.int .i64 R2] 38)=w2:=⟨_,rfl⟩
 have hbA:Below w1.heap.size w1 w2:=by rw[←hw2];exact(Yea w1.heap.size w1).alloc (Ye9 _) _
 have B1:=b3.trans (hbA.mono b3.size);have F2:Y7D (w.heap.size+1) w2:=F1.below hbA;have p0:w2.cell? ⟨w1.heap.size,0,none⟩=some (.int .i64 (R1:Nat)):=by rw[←hw2];exact Z2t
 have p1:w2.cell? ⟨w1.heap.size,1,none⟩=some (.int .i64 R2):=by rw[←hw2];exact Z2t
 have t0:=(hbA.cell (p:=⟨w.heap.size,0,none⟩) Zt).trans t0;have t1:=(hbA.cell (p:=⟨w.heap.size,1,none⟩) Zt).trans t1;have t2:=(hbA.cell (p:=⟨w.heap.size,2,none⟩) Zt).trans t2;have t3:=(hbA.cell (p:=⟨w.heap.size,3,none⟩) Zt).trans t3;have t4:=(hbA.cell (p:=⟨w.heap.size,4,none⟩) Zt).trans t4;have t5:=(hbA.cell (p:=⟨w.heap.size,5,none⟩) Zt).trans t5;have t6:=(hbA.cell (p:=⟨w.heap.size,6,none⟩) Zt).trans t6
 have zA:w2.heap.size=w1.heap.size+1:=by rw[←hw2];exact Z2t
 go_wp2_with fail;refine(cis _ _ _).out.mono ?_;rintro e w3 ⟨rfl,hb3⟩;clear hw2;have F3:=F2.below hb3;have B3:=B1.trans (hb3.mono B1.size);have hs3:=hb3.size;have p0:=(hb3.cell (p:=⟨w1.heap.size,0,none⟩) Zt).trans p0;have p1:=(hb3.cell (p:=⟨w1.heap.size,1,none⟩) Zt).trans p1;have t0:=(hb3.cell (p:=⟨w.heap.size,0,none⟩) Zt).trans t0;have t1:=(hb3.cell (p:=⟨w.heap.size,1,none⟩) Zt).trans t1;have t2:=(hb3.cell (p:=⟨w.heap.size,2,none⟩) Zt).trans t2
 have t3:=(hb3.cell (p:=⟨w.heap.size,3,none⟩) Zt).trans t3;have t4:=(hb3.cell (p:=⟨w.heap.size,4,none⟩) Zt).trans t4;have t5:=(hb3.cell (p:=⟨w.heap.size,5,none⟩) Zt).trans t5;have t6:=(hb3.cell (p:=⟨w.heap.size,6,none⟩) Zt).trans t6;have q0:=F3.c0;have q1:=F3.c1;have q2:=F3.f0;have q3:=F3.f1;by_cases h0:R1=0
 ·have h2:=hR h0;subst h0 h2;go_wp2;have hmx:prog.follows .mixedOrders=true:=by kernel_rfl
  obtain⟨r,hr⟩: ∃r,w.heap.size+1=r:=⟨_,rfl⟩;rw[hr]at F3 q0 q1 q2 q3 ⊢;have hF3:=F3.lt;refine YeS (n:=4).1 ?_;refine Yk (G:=Nat×Nat) (fun y=> [(21,.pointer pp),(22,.agg #[.slice ta ts.length tc,.slice ga gs.length gc,.slice ua us.length uc,.string (bs sn),.string (bs ss),.int .i64 lim,.slice oa own.length oc]),(23,.string (bs name)),(24,.bool disc),(25,.int .u32 stat),(26,.int .u32 cmd),(27,.agg #[.string ⟨#[]⟩,.int .i64 8192]),(28,.pointer (some ⟨y.1,0,none⟩)),(29,.agg (Y14 (.pointer pp) (.slice ta ts.length tc) (.slice ga gs.length gc) (.slice ua us.length uc) (.slice oa own.length oc) sn ss lim name disc stat cmd (.pointer (some ⟨y.1,0,none⟩)) (.slice none 0 0) false)),(30,.pointer (some ⟨y.2,0,none⟩)),(31,.agg #[.int .i64 0,.int .i64 (-1)]),(12,.pointer (some ⟨y.2,0,none⟩))])
   (fun d y W=>w3.grownBy W (some r)∧Blk W r 38 (if d 12=true then #[.int .i64 0,.int .i64 (-1)]else #[.int .i64 0,.int .i64 0])∧
     (d 7=true→w3.heap.size≤y.1∧Blk W y.1 143 #[.string ⟨#[]⟩,.int .i64 8192])∧
     (d 8=true→d 7=true)∧(d 9=true→d 7=true∧w3.heap.size≤y.2∧y.1≠y.2∧Blk W y.2 75 (Y14 (.pointer pp) (.slice ta ts.length tc) (.slice ga gs.length gc) (.slice ua us.length uc) (.slice oa own.length oc) sn ss lim name disc stat cmd (.pointer (some ⟨y.1,0,none⟩)) (.slice none 0 0) false)))
   (0,0) (aF:= ?kA) ?kB hmx [21,22,23,24,25,26,27,28,29,30,31,12] (fun _=>rfl) (by kernel_rfl) (by kernel_rfl) ⟨Y9j (Yea w3.heap.size w3).drew (Ye9 _) _,by simp;exact F3,by simp,by simp,by simp⟩ ?kE ?kQ
  case kB =>
   exact Z3J
  case kE =>
   refine⟨?o0,?o1,?o2,?o3,?o4,?o5,?o6,?o7,?o8,?o9,?o10,?o11,?o12,trivial⟩
   all_goals refine⟨by simp,fun d y W hC hd hdep=>⟨by first | (simp[go_sem,Oper.about];done) | (simp[go_sem,Oper.about];exact trivial),?_⟩⟩
   case o7 =>
    have h9:d 9=false:=by
     cases hq:d 9 with
     | false=>rfl
     | true =>
      have:=(hC.2.2.2.2 hq).1;have hd':d 7=false:=hd;rw[hd']at this
      cases this
    have hN:=(Yea W.heap.size W).alloc (Ye9 _) (.cells #[.string ⟨#[]⟩,.int .i64 8192] 143);refine YL (W.heap.size,y.2) [28,29] (w':=W.alloc (.cells #[.string ⟨#[]⟩,.int .i64 8192] 143)) (by simp[go_sem,Y14]) rfl (by kernel_rfl) Z3C ⟨Y8e hC.1 (Y9j hN (Ye9 _) _),?_,fun _=>⟨hC.1.size,Blk.new _ _ _⟩,fun _=>rfl,fun h=> ?_⟩
    ·have e:also d 7 12=d 12:=rfl;rw[e];exact hC.2.1.below hN
    ·have e:also d 7 9=d 9:=rfl;rw[e,h9]at h
     cases h
   case o9 =>
    simp[Region.binds]at hdep;have d7:d 7=true:=hC.2.2.2.1 Z2x;clear hdep;have hN:=(Yea W.heap.size W).alloc (Ye9 _) (.cells (Y14 (.pointer pp) (.slice ta ts.length tc) (.slice ga gs.length gc) (.slice ua us.length uc) (.slice oa own.length oc) sn ss lim name disc stat cmd (.pointer (some ⟨y.1,0,none⟩)) (.slice none 0 0) false) 75);obtain⟨g1,g2⟩:=hC.2.2.1 d7;have hgl:=g2.lt;refine YL (y.1,W.heap.size) [30,12] (w':=W.alloc (.cells (Y14 (.pointer pp) (.slice ta ts.length tc) (.slice ga gs.length gc) (.slice ua us.length uc) (.slice oa own.length oc) sn ss lim name disc stat cmd (.pointer (some ⟨y.1,0,none⟩)) (.slice none 0 0) false) 75)) (by simp[go_sem,Y14]) rfl (by kernel_rfl) Z3C ⟨Y8e hC.1 (Y9j hN (Ye9 _) _),?_,fun _=>⟨g1,g2.below hN⟩,hC.2.2.2.1,fun _=>⟨d7,hC.1.size,?_,Blk.new _ _ _⟩⟩
    ·have e:also d 9 12=d 12:=rfl;rw[e];exact hC.2.1.below hN
    ·show y.1≠W.heap.size
     exact Z7
   case o10 =>
    have hc:=(cgd W).out;refine Yw (f:=36) (args:= #[]) (w':=W) Z3U rfl Z2t (Yez.2 (hc.mono ?_));rintro e W2 ⟨rfl,hb2⟩;refine⟨y,by simp[go_sem],.inl rfl,Y8e hC.1 (Y9j hb2 (Ye9 _) _),?_,fun h=> ?_,hC.2.2.2.1,fun h=> ?_⟩
    ·have e:also d 10 12=d 12:=rfl;rw[e];exact hC.2.1.below hb2
    ·exact⟨(hC.2.2.1 h).1,(hC.2.2.1 h).2.below hb2⟩
    ·obtain⟨x1,x2,x3,x4⟩:=hC.2.2.2.2 h;exact⟨x1,x2,x3,x4.below hb2⟩
   case o12 =>
    have hd':d 12=false:=hd;have q2:=hC.2.1;rw[Yed (by rw[hd'];exact Z2t)]at q2;have v0:=q2.free 0;have v1:=q2.free 1;have u0:=(q2.cell 0).trans (rfl:_=some (Value.int .i64 0));have u1:=(q2.cell 1).trans (rfl:_=some (Value.int .i64 0));refine YX (w':=(W.setCell ⟨r,0,none⟩ (.int .i64 0)).setCell ⟨r,1,none⟩ (.int .i64 (-1))) (by simp[go_sem,v0,v1,u0,u1]) rfl ⟨YdC (YdC hC.1 0 _) 1 _,?_,fun h=> ?_,hC.2.2.2.1,fun h=> ?_⟩
    ·rw[Yei (by show also d 12 12=true;unfold also;exact Z2t)];exact(q2.set 0 _).set 1 _
    ·obtain⟨x1,x2⟩:=hC.2.2.1 h;exact⟨x1,Y1k (Y1k x2 0 _ Z7) 1 _ Z7⟩
    ·obtain⟨x1,x2,x3,x4⟩:=hC.2.2.2.2 h;exact⟨x1,x2,x3,Y1k (Y1k x4 0 _ Z7) 1 _ Z7⟩
   case o8 =>
    simp[Region.binds]at hdep;exact Yz (by simp[go_sem,Y14]) rfl ⟨hC.1,hC.2.1,hC.2.2.1,fun _=>by simp[also,hdep],hC.2.2.2.2⟩
   case o1 =>
    have gc: ∀k u,w3.cell? ⟨w.heap.size,k,none⟩=some u→W.cell? ⟨w.heap.size,k,none⟩=some u:=fun k u h=>hC.1.cell h (by intro e;have:=Yey e;simp only at this;exact Z7)
    have d0:=gc _ _ t0;have d1:=gc _ _ t1;have d2:=gc _ _ t2;have d3:=gc _ _ t3;have d4:=gc _ _ t4;have d5:=gc _ _ t5;have d6:=gc _ _ t6;exact Yz (by simp[go_sem,d0,d1,d2,d3,d4,d5,d6]) rfl hC
   all_goals exact Yz (by simp[go_sem,Y14]) rfl hC
  case kQ =>
   rintro d ⟨y1,y2⟩ w5 hall ⟨H5,R5,G5,-,X5⟩;rw[Yei (hall 12 Z2t)]at R5;obtain⟨g1,G5⟩:=G5 (hall 7 Z2t);obtain⟨-,x1,x2,X5⟩:=X5 (hall 9 Z2t);simp only at g1 G5 x1 x2 X5;have q0:=(R5.cell 0).trans (rfl:_=some (Value.int .i64 0));have q1:=(R5.cell 1).trans (rfl:_=some (Value.int .i64 (-1)));gi_wp2;go_wp2;refine Yej (v:= .tuple #[.pointer (some ⟨y2,0,none⟩),.agg #[.int .i64 0,.int .i64 (-1)]]) (by simp[results,results14,go_sem,q0,q1]) rfl ?_
   exact⟨⟨_,rfl,fun h=>absurd rfl h,fun _=>⟨y2,rfl,y1,by have:=B3.size;omega,by have:=B3.size;omega,x2,X5,G5⟩⟩,belowGN B3 H5 Z7 B3.size⟩
 ·rw[Yeh h0];go_wp2;go_still_tail 2,(by kernel_rfl);change wpList _ _ _ _ _ w3.drew;go_wp2;refine Yej (v:= .tuple #[.pointer none,.agg #[.int .i64 (R1:Nat),.int .i64 R2]]) (by simp[results,results14,go_sem,q0,q1]) rfl ?_;exact⟨⟨none,rfl,fun _=>rfl,fun h=>absurd h h0⟩,(B3.drew.setCell (p:=⟨w.heap.size+1,0,none⟩) Zt _).setCell (p:=⟨w.heap.size+1,1,none⟩) Zt _⟩
end
end
section
open Go.Proofs.Tryz
open Go Go.RowKit Go.Maps
structure Y4y(w:World)(B g:Nat)(mv rv:Value)(mine rec:PL):Prop where
 blk:Blk w g 84 #[mv,rv]
 hov:PSl w mv mine
 hrv:w.ownsRow B 78 2 rv rec.length (Y0 rec)
 sg:rv.ownBlock≠some g
 so:Y3h mv mine (fun k=>k=g∨rv.ownBlock=some k)
theorem Y4y.below{w w':World}{B g:Nat}{ov rv:Value}{own rec:PL}(h:Y4y w B g ov rv own rec)(hb:Below w.heap.size w w'):Y4y w' B g ov rv own rec:=
 ⟨h.blk.below hb,h.hov.below hb,Y2 h.hrv hb,h.sg,h.so⟩
theorem ite_and1{α:Type}(p q:Bool)(x y:α):(if p=true∧q=false then x else y)=if(p && !q)=true then x else y:=by cases p<;>cases q<;>rfl
theorem ite_and2{α:Type}(p q:Bool)(x y:α):(if p=true∧q=true then x else y)=if(p && q)=true then x else y:=by cases p<;>cases q<;>rfl
def Ycs(own:PL)(offers rec:PL)(login disc:Bool):PL×PL:=if(Y84 offers rec login).1=0 then Y1x own login disc offers ([],rec)else([],rec)
theorem Y1X.putF{w:World}{b n:Nat}{l:List (List UInt8)}(h:Y1X w b n l)(hn:n<1000000)(s:List UInt8)(hs:s.length≤9223372036854775807)(hc:l.contains s=false):
 ∃w',(Instr.mapUpdate 114 (.map (some b)) (.string (bs s)) (.bool false)).run prog w= .ok () w'∧Y1X w' b (n+1) l∧w.grownBy w' (some b):=by
 obtain⟨w',hr,hf,hg⟩:=Y16.put h Y9O underlying114 ZS (Y9P s hs) ⟨_,Y66 false⟩;refine⟨w',hr,hf _ (by simpa[YcI,bs]using hc) (fun v hv=>rfl),hg⟩
def RB1(rec:PL)(login:Bool)(p b:Nat)(w:World)(i:Value)(wr:World):Prop:=
 ∃ (k:Nat) (seen:List (List UInt8)),k≤rec.length∧i= .int .i64 (k:Nat)∧Hid (∀y,seen.contains y=(((rec.take k).map (·.1)).contains y && login))∧Y1X wr b k seen∧Blk wr p 38 #[.int .i64 0,.int .i64 0]∧b<wr.heap.size∧Below w.heap.size w wr
def RB2(offers rec:PL)(login:Bool)(p b:Nat)(w:World)(i:Value)(wr:World):Prop:=
 ∃ (k:Nat) (seen:List (List UInt8)),k≤offers.length∧i= .int .i64 (k:Nat)∧Hid (∀y,seen.contains y=(((offers.take k).map (·.1)).contains y || ((rec.map (·.1)).contains y && login)))∧Hid (∀j,j<k→Y2Z offers rec login j=false)∧
  Y1X wr b (rec.length+k) seen∧Blk wr p 38 #[.int .i64 0,.int .i64 0]∧b<wr.heap.size∧Below w.heap.size w wr
def RB3(own offers rec:PL)(login disc:Bool)(p B g:Nat)(ov rv:Value)(w:World)(o i:Value)(wr:World):Prop:=
 ∃ (k:Nat) (out r:PL) (rvk:Value),k≤offers.length∧i= .int .i64 (k:Nat)∧out.length≤k∧r.length≤rec.length+k∧wr.ownsRow w.heap.size 78 2 o out.length (Y0 out)∧
  Blk wr g 84 #[ov,rvk]∧wr.ownsRow B 78 2 rvk r.length (Y0 r)∧(rvk.ownBlock=rv.ownBlock∨ ∃q,rvk.ownBlock=some q∧w.heap.size≤q)∧
  (∀q,o.ownBlock=some q→rvk.ownBlock≠some q)∧Hid (Y1x own login disc offers ([],rec)=Y1x own login disc (offers.drop k) (out,r))∧Y1 (SN g rv) w wr∧
  Blk wr p 38 #[.int .i64 0,.int .i64 0]∧o.ownBlock≠some p∧rvk.ownBlock≠some p
def RB4(r:PL)(x:List UInt8)(W:World)(l j:Value)(wr:World):Prop:=
 ∃jj:Nat,jj≤r.length∧j= .int .i64 (jj:Nat)∧wr.ownsRow W.heap.size 78 2 l (Yi (r.take jj) x).length (Y0 (Yi (r.take jj) x))∧Below W.heap.size W wr
def Y8D(own offers rec:PL)(login disc:Bool)(B g:Nat)(ov rv:Value)(w:World)(e:Ending)(w':World):Prop:=
 (∃v rv',e= .returned (.tuple #[v,YS (Y84 offers rec login).1 (Y84 offers rec login).2])∧w'.ownsRow w.heap.size 78 2 v (Ycs own offers rec login disc).1.length (Y0 (Ycs own offers rec login disc).1)∧
   Y4y w' B g ov rv' own (Ycs own offers rec login disc).2∧(rv'.ownBlock=rv.ownBlock∨ ∃q,rv'.ownBlock=some q∧w.heap.size≤q))∧Y1 (SN g rv) w w'
theorem Z4T{P:Prop}(h:P:=by
 exact⟨0,by omega,rfl,by simpa[Yi,Y0]using YeD _ _ _ _,Yea _ _⟩):P:=h
theorem Z4W{P:Prop}(h:P:=by
 rw[Yeq hlt,Yfi,List.getD,Yec hlt]
 rfl):P:=h
theorem Z52{P:Prop}(h:P:=by
 rw[←hWq]
 exact Z2t):P:=h
section
variable (own offers rec:PL)(login disc:Bool)(B g:Nat)(ov rv v:Value)(w:World)(hN:Y4y w B g ov rv own rec)(hB:B≤w.heap.size)(h:PSl w v offers)(hfar:Y3h v offers (SN g rv))
 (hbd:PBd offers) (hn:(Yc offers).1=0→offers.length≤60∧ ∀k,(offers.getD k ([],[])).2.length≤100000) (hrl:rec.length≤100000) (hrb: ∀k,(rec.getD k ([],[])).1.length≤9223372036854775807)
 (hol:own.length≤1000000) (hsz: ∀k,(own.getD k ([],[])).2.length≤100000) (hAS: ∀w',Y1 (SN g rv) w w'→PT w'∧ML w')
include hN hB h hfar hbd hn hrl hrb hol hsz hAS
theorem Y6s:Calls prog 12 #[.pointer (some ⟨g,0,none⟩),v,.bool login,.bool disc] w fun e w'=>Y8D own offers rec login disc B g ov rv w e w':=by
 have hA:=(Yea w.heap.size w).alloc (Ye9 _) (.cells #[.int .i64 0,.int .i64 0] 38);have F0:=Blk.new w 38 #[.int .i64 0,.int .i64 0];have cp:=hid (Y33 v offers _ (h.below hA) hbd);unfold Y3W YS at cp;have cis:=fun k pl W=>hid (Y1u k pl W)
 unfold YS at cis;have HF:=hid F0;have HA:=hid hA;have hgl:=hN.blk.lt;clear F0 hA;go_enter func12,ntmps12;go_wp2_with fail;refine cp.out.mono ?_;rintro e w1 ⟨rfl,hb1⟩;have F1:=HF.out.below hb1;have b1:=HA.out.trans (hb1.mono HA.out.size);have hp1:=F1.lt;have bB:=b1.alloc b1.size (.cells #[.int .i64 ((Yc offers).1:Nat),.int .i64 (Yc offers).2] 38);have F2:Blk (w1.alloc (.cells #[.int .i64 ((Yc offers).1:Nat),.int .i64 (Yc offers).2] 38)) w.heap.size 38 #[.int .i64 0,.int .i64 0]:=F1.below ((Yea _ _).alloc (Ye9 _) _)
 have p0:(w1.alloc (.cells #[.int .i64 ((Yc offers).1:Nat),.int .i64 (Yc offers).2] 38)).cell? ⟨w1.heap.size,0,none⟩=some (.int .i64 ((Yc offers).1:Nat)):=Z2t;have p1:(w1.alloc (.cells #[.int .i64 ((Yc offers).1:Nat),.int .i64 (Yc offers).2] 38)).cell? ⟨w1.heap.size,1,none⟩=some (.int .i64 (Yc offers).2):=Z2t;go_wp2_with fail;refine(cis _ _ _).out.mono ?_;rintro e w2 ⟨rfl,hb2⟩
 refine Z2h ?_;intro F3 b2 p0 p1;by_cases hp0:(Yc offers).1=0
 ·rw[Yel hp0];have hn60:=hn hp0;have HAT:=hid (fun k hk hb ha=>Ydj offers rec login k hp0 hk hb ha);have HGD:=hid (fun ha=>Y98 offers rec login hp0 ha);have hF:=h;obtain⟨sa,sc,rfl,_,_⟩:=hF;have HS:=hid h;have HN:=hid hN;have hmm:=@run_makeMap prog;have hM0:=Y1X.made w2;have bM:=b2.alloc b2.size (.map #[] 0);have FM:Blk (w2.alloc (.map #[] 0)) w.heap.size 38 #[.int .i64 0,.int .i64 0]:=F3.below ((Yea _ _).alloc (Ye9 _) _)
  have hmb:w2.heap.size< (w2.alloc (.map #[] 0)).heap.size:=Z2t;have HM:=hid hM0;have HFM:=hid FM;have hwb:w.heap.size<w2.heap.size:=by have:=F3.lt;exact this
  obtain⟨ra,rc,rfl⟩:=Y1I hN.hrv;have n1:=(b2.cell (p:=⟨g,1,none⟩) hgl).trans (hN.blk.cell 1);refine Z3G ?_;clear n1;intro n1;have HR:=hid (Yx hN.hrv);have hgl2:g<w2.heap.size:=Z7;clear h hN hn hp0 cp p0 p1 hM0 FM F1 F2 F3 bB hb1 hb2;go_wp2;go_loopw [42] (fun i wr=>RB1 rec login w.heap.size w2.heap.size w i wr) (fun i _=>rec.length - (intOf i).toNat)
  case atStart=>exact⟨0,[],by omega,rfl,hid (fun y=>by exact Z2t),HM.out,HFM.out,hmb,bM⟩
  case round =>
   obtain⟨k,seen,hk,rfl,hse,hM,hF,hbb,hb⟩:=hrel;have hBz:=hb.size;by_cases hlt:k<rec.length
   ·obtain⟨_,b,o,c,hveq,hbl,hcell⟩:=(HR.out.below hb).open_.resolve_left Z1F
    cases hveq
    obtain⟨g0,g1⟩:=hcell k hlt;have hx1:=hrb k;have HTK:=hid (show((rec.take (k+1)).map (·.1))=(rec.take k).map (·.1) ++ [(rec.getD k ([],[])).1] by exact Z4W);clear hcell;generalize rec.getD k ([],[])=x at *;obtain⟨x1,x2⟩:=x;simp only at *;refine ZG ?_;intro W6 hW6 hA6;refine Zp ?_;intro p0 p1;have hM6:=Y16.below hM hA6;have hF6:=hF.below hA6;refine Z3r ?_;intro hlt6
    cases login with
    | true =>
     obtain⟨W7,hput,hM7,hg7⟩:=Y1X.put hM6 Z7 x1 hx1;have b7:=(hb.trans (hA6.mono hBz)).grown hg7 Z7 (fun j hj=>by cases hj;exact Z7);have hF7:=Y1w hF6 hg7 (by intro e;exact Z2q)
     have HSE:=hid (show ∀y,(x1 :: seen).contains y=(((rec.take (k+1)).map (·.1)).contains y && true)from fun y=>by
      rw[HTK.out,Yft,YeM,hse.out,Bool.and_true,Bool.and_true];simp only[YeM,YfJ,YfT]
      rw[Bool.or_comm])
     have hz7:=hg7.size;clear hse;go_wp2;exact⟨⟨k+1,x1 :: seen,by omega,by go_num,hid HSE.out,hM7,hF7,by omega,b7⟩,by simp[intOf];omega⟩
    | false =>
     have hnc:seen.contains x1=false:=by rw[hse.out,Ygf]
     obtain⟨W7,hput,hM7,hg7⟩:=Y1X.putF hM6 Z7 x1 hx1 hnc;have b7:=(hb.trans (hA6.mono hBz)).grown hg7 Z7 (fun j hj=>by cases hj;exact Z7);have hF7:=Y1w hF6 hg7 (by intro e;exact Z2q)
     have HSE:=hid (show ∀y,seen.contains y=(((rec.take (k+1)).map (·.1)).contains y && false)from fun y=>by
      rw[hse.out,Ygf,Ygf])
     have hz7:=hg7.size;clear hse hnc;go_wp2;exact⟨⟨k+1,seen,by omega,by go_num,hid HSE.out,hM7,hF7,by omega,b7⟩,by simp[intOf];omega⟩
   ·obtain rfl:k=rec.length:=Z7;rw[Yex]at hse;have HSE1:=hse;have HM1:=hid hM;have HF1:=hid hF;have Hb1:=hid hb;have hlt2: ¬((rec.length:Int) < (rec.length:Int)):=Z7;clear hse hM hF hb hlt hk hBz n1 HM HFM hmb bM
    rename World=>wo
    go_wp2;go_loopw [53] (fun i wr=>RB2 offers rec login w.heap.size w2.heap.size w i wr) (fun i _=>offers.length - (intOf i).toNat)
    case atStart=>exact⟨0,seen,by omega,rfl,hid (fun y=>by rw[HSE1.out];exact Z2t),hid (fun j hj=>absurd hj Z7),HM1.out,HF1.out,hbb,Hb1.out⟩
    case round =>
     clear hlt2 hbb;obtain⟨k,seen,hk,rfl,hse,HA,hM,hF,hbb,hb⟩:=hrel;have hBz:=hb.size;have q0:wr.cell? ⟨w.heap.size,0,none⟩=some (.int .i64 0):=hF.cell 0;have q1:wr.cell? ⟨w.heap.size,1,none⟩=some (.int .i64 0):=hF.cell 1;have q2:wr.frozen? ⟨w.heap.size,0,none⟩=false:=hF.free 0;have q3:wr.frozen? ⟨w.heap.size,1,none⟩=false:=hF.free 1;by_cases hlt:k<offers.length
     ·obtain⟨_,b,o,c,hveq,hbl,hcell⟩:=(HS.out.below hb).open_.resolve_left Z1F
      cases hveq
      obtain⟨g0,g1⟩:=hcell k hlt;have hx1:=(hbd.2 k).1;have HAT:=hid (fun hb0=>HAT.out k hlt hb0 HA.out);have HBK:=hid (show Y2Z offers rec login k=seen.contains (offers.getD k ([],[])).1 by unfold Y2Z;rw[hse.out]);refine Z3S ?_;intro HST;have HTK:=hid (show((offers.take (k+1)).map (·.1))=(offers.take k).map (·.1) ++ [(offers.getD k ([],[])).1] by exact Z4W);clear hcell HA;generalize offers.getD k ([],[])=x at *
      obtain⟨x1,x2⟩:=x;simp only at *;refine ZG ?_;intro W6 hW6 hA6;have b6:=hb.trans (hA6.mono hBz);refine Zp ?_;intro p0 p1;have hM6:=Y16.below hM hA6;have hF6:=hF.below hA6;refine Z3r ?_;intro hlt6;have q0:W6.cell? ⟨w.heap.size,0,none⟩=some (.int .i64 0):=hF6.cell 0;have q1:W6.cell? ⟨w.heap.size,1,none⟩=some (.int .i64 0):=hF6.cell 1;have q2:W6.frozen? ⟨w.heap.size,0,none⟩=false:=hF6.free 0;have q3:W6.frozen? ⟨w.heap.size,1,none⟩=false:=hF6.free 1
      have hlk:=Y1X.look hM6 x1 hx1
      cases hcs:seen.contains x1 with
      | true =>
       rw[hcs]at hlk HBK;have HE:=hid (show Y84 offers rec login=(9,(k:Int))from HAT.out HBK.out);have HO:=hid (show Ycs own offers rec login disc=([],rec) by unfold Ycs;rw[HE.out];rfl);have HNB:=hid HN.out;clear HAT HST HGD HBK hcs hse HTK;go_wp2;refine Yej (v:= .tuple #[.slice none 0 0,.agg #[.int .i64 9,.int .i64 (k:Nat)]]) (by simp[results,results12,go_sem,q0,q1]) rfl ?_;have bX:=(b6.setCell (p:=⟨w.heap.size,0,none⟩) (Ye9 _) (.int .i64 9)).setCell (p:=⟨w.heap.size,1,none⟩) (Ye9 _) (.int .i64 (k:Nat))
       exact⟨⟨_,_,by rw[HE.out];rfl,by rw[HO.out];exact YeD _ _ _ _,by rw[HO.out];exact HNB.out.below bX,.inl rfl⟩,(Y1.refl _ _).below bX⟩
      | false =>
       rw[hcs]at hlk HBK;have hS:=hid (HST.out HBK.out);obtain⟨W7,hput,hM7,hg7⟩:=Y1X.put hM6 Z7 x1 hx1;have b7:=b6.grown hg7 Z7 (fun j hj=>by cases hj;exact Z7);have hF7:=Y1w hF6 hg7 (by intro e;exact Z2q)
       have HSE:=hid (show ∀y,(x1 :: seen).contains y=(((offers.take (k+1)).map (·.1)).contains y || ((rec.map (·.1)).contains y && login))from fun y=>by
        rw[HTK.out,Yft,YeM,hse.out];simp only[YeM,YfJ,YfT]
        cases (y == x1) <;>cases ((offers.take k).map (·.1)).contains y<;>simp)
       have hz7:=hg7.size;clear hse HAT HST HGD HBK hcs HTK;go_wp2;exact⟨⟨k+1,x1 :: seen,by omega,by go_num,hid HSE.out,hid hS.out,hM7,hF7,by omega,b7⟩,by simp[intOf];omega⟩
     ·obtain rfl:k=offers.length:=Z7;have HE:=hid (HGD.out HA.out);have HO:=hid (show Ycs own offers rec login disc=Y1x own login disc offers ([],rec) by unfold Ycs;rw[HE.out];rfl);have HK0:=hid ((Y1.refl (SN g (.slice ra rec.length rc)) w).below hb);have HB0:=hid (HN.out.blk.below hb);have HR0:=hid (Y2 HN.out.hrv hb);have HF0:=hid hF;have hpr:(Value.slice ra rec.length rc).ownBlock≠some w.heap.size:=fun e=>by have:=(HN.out.hrv.lt _ e).2;exact Z7
      have hlt3: ¬((offers.length:Int) < (offers.length:Int)):=Z7;clear HAT HGD HA hse hM hF hb hBz hbb hlt hk HM1 HF1 Hb1 HSE1 q0 q1 q2 q3
      rename World=>wo2
      go_wp2;go_loopw [16,70] (fun o i wr=>RB3 own offers rec login disc w.heap.size B g ov (.slice ra rec.length rc) w o i wr) (fun _ i _=>offers.length - (intOf i).toNat)
      case atStart=>exact⟨0,[],rec,_,by omega,rfl,by simp,by omega,YeD _ _ _ _,HB0.out,HR0.out,.inl rfl,fun q hq=>by simp[Value.ownBlock]at hq,hid rfl,HK0.out,HF0.out,by simp[Value.ownBlock],hpr⟩
      case round =>
       clear HB0 HR0 HK0 HF0 hlt3;obtain⟨k,out,r,rvk,hk,rfl,hol1,hrl1,hown,hBk,hRk,hrbk,hap,HX,HK,hF,hoF,hrF⟩:=hrel;have hwz:=HK.size;obtain⟨A1,c1,rfl⟩:=Y1I hRk;by_cases hlt:k<offers.length
       ·obtain⟨_,b,o,c,hveq,hbl,hcell⟩:=(HS.out.kept hfar HK).open_.resolve_left Z1F
        cases hveq
        obtain⟨g0,g1⟩:=hcell k hlt;have hx1:=(hbd.2 k).1;have hx2:=hn60.2 k;have HDR:=hid ((Y6W own login disc offers k (out,r) hlt));clear hcell;generalize offers.getD k ([],[])=x at *;obtain⟨x1,x2⟩:=x;simp only at *;refine ZG ?_;intro W6 hW6 hA6;refine Zp ?_;intro p0 p1;refine Z3r ?_;intro hlt6;have K6:=HK.below hA6
        have hrg:(Value.slice A1 r.length c1).ownBlock≠some g:=by
         rcases hrbk with h | ⟨q,h,hq⟩
         ·rw[h];exact HN.out.sg
         ·rw[h];intro e;exact Z2q
        have S6:NSt 84 w (.slice ra rec.length rc) ov B g wr.heap.size x1 x2 W6 (.slice A1 r.length c1) r u16 out:=
         ⟨hBk.below hA6,by rw[←hW6];exact Blk.new _ _ _,Y2 hRk hA6,Y2 hown hA6,hrbk,hap,fun e=>by have:=(hRk.lt _ e).2;omega,fun e=>by have:=(hown.lt _ e).2;omega,hrg,hgl,by omega,K6⟩
        have F6:=hid (hF.below hA6);have hpF:=hF.lt;have HOF:=hid hoF;have HRF:=hid hrF;have HX2:=hid (HX.out.trans HDR.out);have HS6:=hid S6;have cK:=fun W=>hid (Y56 x1 W)
        have cO:=fun W (hb:Below W6.heap.size W6 W)=>hid (rOwn_any g ov (.slice A1 r.length c1) x1 W (S6.bN.below hb) hx1 own (HN.out.hov.kept HN.out.so (K6.below hb)) Z7)
        have cF:=fun W=>hid (Y4X x1 x2 W hx2)
        have hol2:=Y87 (key:=x1) hsz Z7;have cR:=fun W (hb:Below W6.heap.size W6 W)=>hid (Ya3 x1 x2 (ofP own x1).1 W hx2 hol2 (hAS _ (K6.below hb)).1 (hAS _ (K6.below hb)).2)
        have HNN:=hid (@Y9w own (x1,x2) login disc);have HNS:=hid (fun k h=>@Y9v own (x1,x2) login disc k h);clear K6 hown hBk hRk HK hap hrbk HX HDR hA6 S6 hrg hF hoF hrF;simp only[recP]at HX2;simp only at HNN HNS
        cases hfk:Y2j Yh x1 with
        | none =>
         have hA:=HNN.out hfk;rw[hA]at HX2;simp only[Yfw,reduceCtorEq,if_false]at HX2;have cK:=cK W6;rw[hfk]at cK;obtain⟨n0,k1,k2,k3,n4,c5,c6,hz⟩: ∃n0 k1 k2 k3 n4 c5 c6,Y2s none= .agg #[.string n0,.int .i64 k1,.int .i64 k2,.int .i64 k3,.string n4,.bool c5,.bool c6]:=⟨_,_,_,_,_,_,_,rfl⟩;rw[hz]at cK;simp only[Y2t]at cK;clear HNN HNS hfk hA cF cR hz;go_wp2_with fail;refine cK.out.mono ?_;rintro e w7 ⟨rfl,hb7⟩
         obtain⟨W8,hW8⟩: ∃W8,w7.alloc (.cells #[.string n0,.int .i64 k1,.int .i64 k2,.int .i64 k3,.string n4,.bool c5,.bool c6] 131)=W8:=⟨_,rfl⟩;have hA8:Below w7.heap.size w7 W8:=by rw[←hW8];exact Ze
         have b8:Below W6.heap.size W6 W8:=hb7.trans (hA8.mono hb7.size);have p0:=(b8.cell (p:=⟨wr.heap.size,0,none⟩) hlt6).trans p0;have p1:=(b8.cell (p:=⟨wr.heap.size,1,none⟩) hlt6).trans p1;have hlt8:wr.heap.size<W8.heap.size:=Yee hlt6 b8.size;go_wp2_with fail;refine(cO _ b8).out.mono ?_;rintro e w9 ⟨rfl,hb9⟩;have b9:Below W6.heap.size W6 w9:=b8.trans (hb9.mono b8.size);have p0:=(hb9.cell (p:=⟨wr.heap.size,0,none⟩) hlt8).trans p0
         have p1:=(hb9.cell (p:=⟨wr.heap.size,1,none⟩) hlt8).trans p1;have S9:=hid (HS6.out.below b9);have F9:=hid (F6.out.below b9);clear hW6 hW8 hA8 HS6 F6 cO;have hzw9:=S9.out.wW
         go_wp2_with (at_builtin;refine YY rfl (.tmp 134) (.tmp 139) 27 rfl w.heap.size 78 (.agg #[.string ⟨#[]⟩,.string ⟨#[]⟩]) 2 32 underlying27 Yv rfl (by decide) _ out.length (Y0 out) rfl (S9.out.hO.alloc _) ⟨w9.heap.size,0,none⟩ 1 1 [.string (bs x1),.string ⟨#[78,111,116,85,110,100,101,114,115,116,111,111,100]⟩] rfl rfl (YeW _ _ _ _) (by simp[Value.oneCell']) (by unfold maxLen;omega) (by omega) (by simp;omega) ?_;intro v' wA hownA hgrow hat;have SA:=hid (NSt.app (a1:=notU) S9.out hgrow hownA hat);have FA:=hid (Y1w (F9.out.below ((Yea w9.heap.size w9).alloc (Ye9 _) _)) hgrow HOF.out);have HOA:=hid (show v'.ownBlock≠some w.heap.size from fun e=>by
          rcases hat with h1 | h1
          ·exact HOF.out (h1 ▸e)
          ·rw[h1]at e;have h2:=Yey e;simp at h2;omega);have hzA:=SA.out.wW;have n1:wA.cell? ⟨g,1,none⟩=some (.slice A1 r.length c1):=SA.out.bN.cell 1;have p0:wA.cell? ⟨wr.heap.size,0,none⟩=some (.string (bs x1)):=SA.out.bP.cell 0;clear hownA hgrow hat)
         exact⟨⟨k+1,out ++ [(x1,notU)],r,_,by omega,by go_num,by first | omega | (simp;omega),by omega,SA.out.hO,SA.out.bN,SA.out.hR,SA.out.rb,SA.out.ap,hid HX2.out,SA.out.K,FA.out,HOA.out,HRF.out⟩,by simp[intOf];omega⟩
        | some kr =>
         have HA:=HNS.out kr hfk;have cK:=cK W6;rw[hfk]at cK;simp only[Y2s,Y2t,KR.cells]at cK;clear HNN HNS hfk;go_wp2_with fail;refine cK.out.mono ?_;rintro e w7 ⟨rfl,hb7⟩;obtain⟨W8,hW8⟩: ∃W8,w7.alloc (.cells #[.string (bs kr.name),.int .i64 (YA kr.lk:Int),.int .i64 (YA kr.ll:Int),.int .i64 (YA kr.lh:Int),.string (bs kr.dv),.bool (kr.no == [78]),.bool (kr.lo == [76])] 131)=W8:=⟨_,rfl⟩
         have hA8:Below w7.heap.size w7 W8:=by rw[←hW8];exact Ze
         have b8:Below W6.heap.size W6 W8:=hb7.trans (hA8.mono hb7.size);have p0:=(b8.cell (p:=⟨wr.heap.size,0,none⟩) hlt6).trans p0;have p1:=(b8.cell (p:=⟨wr.heap.size,1,none⟩) hlt6).trans p1;have d1:W8.cell? ⟨w7.heap.size,1,none⟩=some (.int .i64 (YA kr.lk:Int)):=by rw[←hW8];exact Z2t
         have d5:W8.cell? ⟨w7.heap.size,5,none⟩=some (.bool (kr.no == [78])):=by rw[←hW8];exact Z2t
         have d6:W8.cell? ⟨w7.heap.size,6,none⟩=some (.bool (kr.lo == [76])):=by rw[←hW8];exact Z2t
         have hlt8:wr.heap.size<W8.heap.size:=Yee hlt6 b8.size;have hkb8:w7.heap.size<W8.heap.size:=by rw[←hW8];exact Z2t
         go_wp2_with fail;refine(cO _ b8).out.mono ?_;rintro e w9 ⟨rfl,hb9⟩;have b9:Below W6.heap.size W6 w9:=b8.trans (hb9.mono b8.size);have p0:=(hb9.cell (p:=⟨wr.heap.size,0,none⟩) hlt8).trans p0;have p1:=(hb9.cell (p:=⟨wr.heap.size,1,none⟩) hlt8).trans p1;have d1:=(hb9.cell (p:=⟨w7.heap.size,1,none⟩) hkb8).trans d1;have d5:=(hb9.cell (p:=⟨w7.heap.size,5,none⟩) hkb8).trans d5;have d6:=(hb9.cell (p:=⟨w7.heap.size,6,none⟩) hkb8).trans d6
         have hlt9:wr.heap.size<w9.heap.size:=Yee hlt8 hb9.size;have hkb9:w7.heap.size<w9.heap.size:=Yee hkb8 hb9.size;have S9:=hid (HS6.out.below b9);have F9:=hid (F6.out.below b9);have b9c:=hid b9;clear hW6 hW8 hA8 HS6 F6 cO;generalize hAA:Y69 own (x1,x2) login disc=A at *;obtain⟨a1,a2⟩:=A;clear hAA;generalize ofP own x1=op at *;obtain⟨o1,o2⟩:=op;simp only at *;generalize Y75 x1 x2 o1=R at *
         obtain⟨r1,r2⟩:=R;simp only at *;generalize Y2i x1 x2=F at *;generalize (kr.no == [78])=bn at *;generalize (kr.lo == [76])=bl at *;generalize YA kr.lk=kd at *;go_upto_block 6 with fail;go_cut [19,20] (fun s t wx=>s= .string (bs a1)∧t= .string (bs a2)∧Below w9.heap.size w9 wx)
         case first =>
          have br:=Yea w9.heap.size w9;go_upto_region 30 with fail;go_cut [103] (fun s wx=>s= .bool (bl && !login)∧wx=w9)
          case first =>
           clear HA cF cR br
           cases bl<;>cases login
           all_goals
            go_wp2;go_meet;exact⟨rfl,rfl⟩
          case rest =>
          obtain⟨rfl,rfl⟩:=hcut;rw[ite_and1]at HA;generalize (bl && !login)=b103 at *
          cases b103 with
          | true =>
           have HF:=HA.trans (Yei rfl);obtain⟨rfl,rfl⟩:=Ygv HF;clear HA HF;go_wp2;go_meet;exact⟨rfl,rfl,br⟩
          | false =>
          have HE1:=HA.trans (Yed Z2t);clear HA;go_upto_region 32 with fail;go_cut [110] (fun s wx=>s= .bool (bn && disc)∧wx=wc)
          case first =>
           clear HE1 cF cR br
           cases bn<;>cases disc
           all_goals
            go_wp2;go_meet;exact⟨rfl,rfl⟩
          case rest =>
          obtain⟨rfl,rfl⟩:=hcut;rw[ite_and2]at HE1;generalize (bn && disc)=b110 at *
          cases b110 with
          | true =>
           have HF:=HE1.trans (Yei rfl);obtain⟨rfl,rfl⟩:=Ygv HF;clear HE1 HF;go_wp2;go_meet;exact⟨rfl,rfl,br⟩
          | false =>
          have HE2:=HE1.trans (Yed Z2t);clear HE1;go_wp2_with fail;refine(cF _).out.mono ?_;rintro e wX ⟨rfl,hbX⟩;have p0:=(hbX.cell (p:=⟨wr.heap.size,0,none⟩) hlt9).trans p0;have p1:=(hbX.cell (p:=⟨wr.heap.size,1,none⟩) hlt9).trans p1;have d1:=(hbX.cell (p:=⟨w7.heap.size,1,none⟩) hkb9).trans d1;by_cases hF0:F=0
          ·subst hF0;have HE3:=HE2.trans (Yed Z2t);clear HE2;by_cases hk:kd=6∨kd=7
           ·have HF:=HE3.trans (Yei hk);obtain⟨rfl,rfl⟩:=Ygv HF;clear HE3 HF cR;rcases hk with rfl | rfl
            all_goals
             go_wp2;go_meet;exact⟨rfl,rfl,hbX⟩
           ·have HE4:=HE3.trans (Yed hk);clear HE3;have e6:((kd:Int) == 6)=false:=Z1r;have e7:((kd:Int) == 7)=false:=Z1r;clear hk;have cR:=cR _ (b9c.out.trans (hbX.mono b9c.out.size));go_wp2_with fail;refine cR.out.mono ?_;rintro e wY ⟨rfl,hbY⟩;have bXY:=hbX.trans (hbY.mono hbX.size);by_cases hr:r2=0
            ·have HF:=HE4.trans (Yed (by simpa using hr));obtain⟨rfl,rfl⟩:=Ygv HF;subst hr;clear HE4 HF;go_wp2;go_meet;exact⟨rfl,rfl,bXY⟩
            ·have HF:=HE4.trans (Yei hr);obtain⟨rfl,rfl⟩:=Ygv HF;have hr2:((r2:Int) !=0)=true:=Zd;clear HE4 HF hr;go_wp2;go_meet;exact⟨rfl,rfl,bXY⟩
          ·have HF:=HE2.trans (Yei hF0);obtain⟨rfl,rfl⟩:=Ygv HF;have hF2:((F:Int) !=0)=true:=Zd;clear HE2 HF hF0;go_wp2;go_meet;exact⟨rfl,rfl,hbX⟩
         case rest =>
          obtain⟨rfl,rfl,hbC⟩:=hcut;have p0:=(hbC.cell (p:=⟨wr.heap.size,0,none⟩) hlt9).trans p0;have S10:=hid (S9.out.below hbC);have F10:=hid (F9.out.below hbC);clear S9 F9 HA cF cR d1 d5 d6 hkb9 hkb8 hlt8 p1 hb9 b9 b8;by_cases h1:a1= []
          ·have e1:(a1 == [])=true:=by rw[h1];rfl
           rw[Yei h1]at HX2;clear h1;by_cases h2:a2= []
           ·have e2:(a2 == [])=true:=by rw[h2];rfl
            rw[Yei h2]at HX2;clear h2;go_wp2;exact⟨⟨k+1,out,r,_,by omega,by go_num,by first | omega | (simp;omega),by omega,S10.out.hO,S10.out.bN,S10.out.hR,S10.out.rb,S10.out.ap,hid HX2.out,S10.out.K,F10.out,HOF.out,HRF.out⟩,by simp[intOf];omega⟩
           ·have e2:(a2 == [])=false:=Yen.2 h2;rw[Yed h2]at HX2;clear h2;have n1:wc.cell? ⟨g,1,none⟩=some (.slice A1 r.length c1):=S10.out.bN.cell 1;have HRP:=hid (Yx S10.out.hR);have hpW:=S10.out.bP.lt;have hgW:=S10.out.bN.lt;have hzW:=S10.out.wW;have p0:wc.cell? ⟨wr.heap.size,0,none⟩=some (.string (bs x1)):=S10.out.bP.cell 0;generalize hpb:wr.heap.size=pb at *;clear hpb
            go_wp2;clear n1;go_loopw [27,148] (fun l j wr=>RB4 r x1 wc l j wr) (fun _ j _=>r.length - (intOf j).toNat)
            case atStart=>exact Z4T
            case round =>
             obtain⟨jj,hj,rfl,hown,hc⟩:=hrel;have hcz:=hc.size;have p0:=(hc.cell (p:=⟨pb,0,none⟩) hpW).trans p0;have hpw:pb<wr.heap.size:=Z7;have hwl:(Yi (r.take jj) x1).length≤r.length:=Yeu (YfB _ _) Z1X;by_cases hjl:jj<r.length
             ·obtain⟨_,b2,o2,c2,hveq,hbl2,hcell⟩:=(HRP.out.below hc).open_.resolve_left Z3d
              cases hveq
              obtain⟨g0,g1⟩:=hcell jj hjl;have HWT:=hid (Y3i r x1 jj hjl);clear hcell;generalize hrr:Yi (r.take jj) x1=rr at *;generalize r.getD jj ([],[])=y at *;obtain⟨y1,y2⟩:=y;simp only at *;clear hrr;obtain⟨Wq,hWq⟩: ∃Wq,wr.alloc (.cells #[.string (bs y1),.string (bs y2)] 78)=Wq:=⟨_,rfl⟩;have hAq:Below wr.heap.size wr Wq:=by rw[←hWq];exact Ze
              have q0:Wq.cell? ⟨wr.heap.size,0,none⟩=some (.string (bs y1)):=Z52;have q1:Wq.cell? ⟨wr.heap.size,1,none⟩=some (.string (bs y2)):=Z52;have p0:=(hAq.cell (p:=⟨pb,0,none⟩) hpw).trans p0;have hzq:wr.heap.size<Wq.heap.size:=Z52;have HOq:=hid (Y2 hown hAq);have Hcq:=hid (hc.trans (hAq.mono hcz))
              cases hyx:(y1 == x1)with
              | true =>
               rw[hyx]at HWT;have HST:=hid (show Yi (r.take (jj+1)) x1=rr from Z4O);clear HWT hown hc;go_wp2;exact⟨⟨jj+1,by omega,by go_num,by rw[HST.out];exact HOq.out,Hcq.out⟩,by simp[intOf];omega⟩
              | false =>
               rw[hyx]at HWT;have HST:=hid (show Yi (r.take (jj+1)) x1=rr ++ [(y1,y2)] from Z4O);clear HWT hown hc;go_wp2_with (at_builtin;refine Yj rfl (.tmp 157) (.tmp 159) 27 rfl wc.heap.size 78 (.agg #[.string ⟨#[]⟩,.string ⟨#[]⟩]) 2 32 underlying27 Yv rfl Z16 _ rr.length (Y0 rr) rfl (HOq.out.alloc _) ⟨Wq.heap.size,0,none⟩ 1 1 [.string (bs y1),.string (bs y2)] rfl rfl (YeW _ _ _ _) Z1H ZS Z7 Zd ?_;intro v' wB hownB hgrow _)
               exact⟨⟨jj+1,by omega,by go_num,by rw[HST.out,Ys,Yem];exact hownB,Yp (Hcq.out.alloc Z7 _) (HOq.out.alloc _) hgrow Zd⟩,by simp[intOf];omega⟩
             ·obtain rfl:jj=r.length:=Z7;rw[Yex]at hown hwl;have n1:wr.cell? ⟨g,1,none⟩=some (.slice A1 r.length c1):=(S10.out.below hc).bN.cell 1;have HOw:=hid hown;have Hc:=hid hc;have hlt4: ¬((r.length:Int) < (r.length:Int)):=Z7;clear hown hc hjl hj;generalize hrr:Yi r x1=rr at *;go_wp2_with (at_builtin;refine Yj rfl (.tmp 163) (.tmp 168) 27 rfl wc.heap.size 78 (.agg #[.string ⟨#[]⟩,.string ⟨#[]⟩]) 2 32 underlying27 Yv rfl Z16 _ rr.length (Y0 rr) rfl (HOw.out.alloc _) ⟨wr.heap.size,0,none⟩ 1 1 [.string (bs x1),.string (bs a2)] rfl rfl (YeW _ _ _ _) Z1H ZS Z7 Zd ?_;intro v' wB hownB hgrow _;have bB:=hid (Yp (Hc.out.alloc Z7 _) (HOw.out.alloc _) hgrow Zd);have SB:=S10.out.newrec (rv2:=v') (r2:=rr ++ [(x1,a2)]) bB.out (by rw[Ys,Yem];exact hownB) hB Z2t;have HSB:=hid SB.1;have n1:wB.cell? ⟨g,1,none⟩=some (.slice A1 r.length c1):=SB.2.cell 1;have f1:wB.frozen? ⟨g,1,none⟩=false:=SB.2.free 1;have HRB2:=hid (show v'.ownBlock≠some w.heap.size from fun e=>by have h1:=(hownB.lt _ e).1;have h2:=F10.out.lt;exact Z7);obtain⟨A2,c2,rfl⟩:=Y1I hownB;have FB:=hid ((F10.out.below bB.out).far (p:=⟨g,1,none⟩) Zt (.slice A2 (rr.length+1) c2));clear SB hownB hgrow)
              go_wp2;exact⟨⟨k+1,out,rr ++ [(x1,a2)],_,by omega,by go_num,by first | omega | (simp;omega),by rw[Yem];simp only[YeH,YeV];omega,HSB.out.hO,HSB.out.bN,HSB.out.hR,HSB.out.rb,HSB.out.ap,hid HX2.out,HSB.out.K,FB.out,HOF.out,HRB2.out⟩,by simp[intOf];omega⟩
          ·have e1:(a1 == [])=false:=Yen.2 h1;rw[Yed h1]at HX2;clear h1;by_cases h2:a2= []
           ·have e2:(a2 == [])=true:=by rw[h2];rfl
            rw[Yei h2]at HX2;clear h2;have hzwc:=S10.out.wW
            go_wp2_with (at_builtin;refine YY rfl (.tmp 134) (.tmp 139) 27 rfl w.heap.size 78 (.agg #[.string ⟨#[]⟩,.string ⟨#[]⟩]) 2 32 underlying27 Yv rfl (by decide) _ out.length (Y0 out) rfl (S10.out.hO.alloc _) ⟨wc.heap.size,0,none⟩ 1 1 [.string (bs x1),.string (bs a1)] rfl rfl (YeW _ _ _ _) (by simp[Value.oneCell']) (by unfold maxLen;omega) (by omega) (by simp;omega) ?_;intro v' wA hownA hgrow hat;have SA:=hid (NSt.app (a1:=a1) S10.out hgrow hownA hat);have FA:=hid (Y1w (F10.out.below ((Yea wc.heap.size wc).alloc (Ye9 _) _)) hgrow HOF.out);have HOA:=hid (show v'.ownBlock≠some w.heap.size from fun e=>by
             rcases hat with h1 | h1
             ·exact HOF.out (h1 ▸e)
             ·rw[h1]at e;have h2:=Yey e;simp at h2;omega);have hzA:=SA.out.wW;have n1:wA.cell? ⟨g,1,none⟩=some (.slice A1 r.length c1):=SA.out.bN.cell 1;have p0:wA.cell? ⟨wr.heap.size,0,none⟩=some (.string (bs x1)):=SA.out.bP.cell 0;clear hownA hgrow hat)
            exact⟨⟨k+1,out ++ [(x1,a1)],r,_,by omega,by go_num,by first | omega | (simp;omega),by omega,SA.out.hO,SA.out.bN,SA.out.hR,SA.out.rb,SA.out.ap,hid HX2.out,SA.out.K,FA.out,HOA.out,HRF.out⟩,by simp[intOf];omega⟩
           ·have e2:(a2 == [])=false:=Yen.2 h2;rw[Yed h2]at HX2;clear h2;have hzwc:=S10.out.wW
            go_wp2_with (at_builtin;refine YY rfl (.tmp 134) (.tmp 139) 27 rfl w.heap.size 78 (.agg #[.string ⟨#[]⟩,.string ⟨#[]⟩]) 2 32 underlying27 Yv rfl (by decide) _ out.length (Y0 out) rfl (S10.out.hO.alloc _) ⟨wc.heap.size,0,none⟩ 1 1 [.string (bs x1),.string (bs a1)] rfl rfl (YeW _ _ _ _) (by simp[Value.oneCell']) (by unfold maxLen;omega) (by omega) (by simp;omega) ?_;intro v' wA hownA hgrow hat;have SA:=hid (NSt.app (a1:=a1) S10.out hgrow hownA hat);have FA:=hid (Y1w (F10.out.below ((Yea wc.heap.size wc).alloc (Ye9 _) _)) hgrow HOF.out);have HOA:=hid (show v'.ownBlock≠some w.heap.size from fun e=>by
             rcases hat with h1 | h1
             ·exact HOF.out (h1 ▸e)
             ·rw[h1]at e;have h2:=Yey e;simp at h2;omega);have hzA:=SA.out.wW;have n1:wA.cell? ⟨g,1,none⟩=some (.slice A1 r.length c1):=SA.out.bN.cell 1;have p0:wA.cell? ⟨wr.heap.size,0,none⟩=some (.string (bs x1)):=SA.out.bP.cell 0;clear hownA hgrow hat)
            have n1:wA.cell? ⟨g,1,none⟩=some (.slice A1 r.length c1):=SA.out.bN.cell 1;have HRP:=hid (Yx SA.out.hR);have hpW:=SA.out.bP.lt;have hgW:=SA.out.bN.lt;have hzW:=SA.out.wW;have p0:wA.cell? ⟨wr.heap.size,0,none⟩=some (.string (bs x1)):=SA.out.bP.cell 0;generalize hpb:wr.heap.size=pb at *;clear hpb
            skip
            clear n1;go_loopw [27,148] (fun l j wr=>RB4 r x1 wA l j wr) (fun _ j _=>r.length - (intOf j).toNat)
            case atStart=>exact Z4T
            case round =>
             obtain⟨jj,hj,rfl,hown,hc⟩:=hrel;have hcz:=hc.size;have p0:=(hc.cell (p:=⟨pb,0,none⟩) hpW).trans p0;have hpw:pb<wr.heap.size:=Z7;have hwl:(Yi (r.take jj) x1).length≤r.length:=Yeu (YfB _ _) Z1X;by_cases hjl:jj<r.length
             ·obtain⟨_,b2,o2,c2,hveq,hbl2,hcell⟩:=(HRP.out.below hc).open_.resolve_left Z3d
              cases hveq
              obtain⟨g0,g1⟩:=hcell jj hjl;have HWT:=hid (Y3i r x1 jj hjl);clear hcell;generalize hrr:Yi (r.take jj) x1=rr at *;generalize r.getD jj ([],[])=y at *;obtain⟨y1,y2⟩:=y;simp only at *;clear hrr;obtain⟨Wq,hWq⟩: ∃Wq,wr.alloc (.cells #[.string (bs y1),.string (bs y2)] 78)=Wq:=⟨_,rfl⟩;have hAq:Below wr.heap.size wr Wq:=by rw[←hWq];exact Ze
              have q0:Wq.cell? ⟨wr.heap.size,0,none⟩=some (.string (bs y1)):=Z52;have q1:Wq.cell? ⟨wr.heap.size,1,none⟩=some (.string (bs y2)):=Z52;have p0:=(hAq.cell (p:=⟨pb,0,none⟩) hpw).trans p0;have hzq:wr.heap.size<Wq.heap.size:=Z52;have HOq:=hid (Y2 hown hAq);have Hcq:=hid (hc.trans (hAq.mono hcz))
              cases hyx:(y1 == x1)with
              | true =>
               rw[hyx]at HWT;have HST:=hid (show Yi (r.take (jj+1)) x1=rr from Z4O);clear HWT hown hc;go_wp2;exact⟨⟨jj+1,by omega,by go_num,by rw[HST.out];exact HOq.out,Hcq.out⟩,by simp[intOf];omega⟩
              | false =>
               rw[hyx]at HWT;have HST:=hid (show Yi (r.take (jj+1)) x1=rr ++ [(y1,y2)] from Z4O);clear HWT hown hc;go_wp2_with (at_builtin;refine Yj rfl (.tmp 157) (.tmp 159) 27 rfl wA.heap.size 78 (.agg #[.string ⟨#[]⟩,.string ⟨#[]⟩]) 2 32 underlying27 Yv rfl Z16 _ rr.length (Y0 rr) rfl (HOq.out.alloc _) ⟨Wq.heap.size,0,none⟩ 1 1 [.string (bs y1),.string (bs y2)] rfl rfl (YeW _ _ _ _) Z1H ZS Z7 Zd ?_;intro v' wB hownB hgrow _)
               exact⟨⟨jj+1,by omega,by go_num,by rw[HST.out,Ys,Yem];exact hownB,Yp (Hcq.out.alloc Z7 _) (HOq.out.alloc _) hgrow Zd⟩,by simp[intOf];omega⟩
             ·obtain rfl:jj=r.length:=Z7;rw[Yex]at hown hwl;have n1:wr.cell? ⟨g,1,none⟩=some (.slice A1 r.length c1):=(SA.out.below hc).bN.cell 1;have HOw:=hid hown;have Hc:=hid hc;have hlt4: ¬((r.length:Int) < (r.length:Int)):=Z7;clear hown hc hjl hj;generalize hrr:Yi r x1=rr at *;go_wp2_with (at_builtin;refine Yj rfl (.tmp 163) (.tmp 168) 27 rfl wA.heap.size 78 (.agg #[.string ⟨#[]⟩,.string ⟨#[]⟩]) 2 32 underlying27 Yv rfl Z16 _ rr.length (Y0 rr) rfl (HOw.out.alloc _) ⟨wr.heap.size,0,none⟩ 1 1 [.string (bs x1),.string (bs a2)] rfl rfl (YeW _ _ _ _) Z1H ZS Z7 Zd ?_;intro v' wB hownB hgrow _;have bB:=hid (Yp (Hc.out.alloc Z7 _) (HOw.out.alloc _) hgrow Zd);have SB:=SA.out.newrec (rv2:=v') (r2:=rr ++ [(x1,a2)]) bB.out (by rw[Ys,Yem];exact hownB) hB Z2t;have HSB:=hid SB.1;have n1:wB.cell? ⟨g,1,none⟩=some (.slice A1 r.length c1):=SB.2.cell 1;have f1:wB.frozen? ⟨g,1,none⟩=false:=SB.2.free 1;have HRB2:=hid (show v'.ownBlock≠some w.heap.size from fun e=>by have h1:=(hownB.lt _ e).1;have h2:=FA.out.lt;exact Z7);obtain⟨A2,c2,rfl⟩:=Y1I hownB;have FB:=hid ((FA.out.below bB.out).far (p:=⟨g,1,none⟩) Zt (.slice A2 (rr.length+1) c2));clear SB hownB hgrow)
              go_wp2;exact⟨⟨k+1,out ++ [(x1,a1)],rr ++ [(x1,a2)],_,by omega,by go_num,by first | omega | (simp;omega),by rw[Yem];simp only[YeH,YeV];omega,HSB.out.hO,HSB.out.bN,HSB.out.hR,HSB.out.rb,HSB.out.ap,hid HX2.out,HSB.out.K,FB.out,HOA.out,HRB2.out⟩,by simp[intOf];omega⟩
       ·obtain rfl:k=offers.length:=Z7;have HY:=hid (show Ycs own offers rec login disc=(out,r) by rw[HO.out,HX.out,Y7C own login disc offers offers.length (out,r) (Ye9 _)])
        have HNS:=hid (show Y4y wr B g ov (.slice A1 r.length c1) own r from⟨hBk,HN.out.hov.kept HN.out.so HK,hRk,by
         rcases hrbk with h | ⟨q,h,hq⟩
         ·rw[h];exact HN.out.sg
         ·rw[h];intro e;have:=Yey e;omega,by
         rcases hrbk with h | ⟨q,h,hq⟩
         ·rw[h];exact HN.out.so
         ·rcases Y3h.lt HN.out.hov with h0 | ⟨b',o',n',c',hv,hlt'⟩
          ·exact .inl h0
          ·rcases HN.out.so with h0 | ⟨b2,o2,n2,c2,hv2,hn2⟩
           ·exact .inl h0
           ·rw[hv]at hv2
            cases hv2
            refine .inr ⟨b',o',n',c',hv,fun hs=> ?_⟩;rcases hs with hs | hs
            ·exact hn2 (.inl hs)
            ·rw[h]at hs;have:=Yey hs;omega⟩)
        have HOW:=hid hown;have HKK:=hid HK;have HRB:=hid hrbk;have HFF:=hid hF;have HOF:=hid hoF;have HRF:=hid hrF;have hlt4: ¬((offers.length:Int) < (offers.length:Int)):=Z7;have cg:=fun W=>hid (Y1O W)
        clear hown hBk hRk hap HK hrbk hlt hk HX HO HS hF hoF hrF;go_wp2_with fail;refine(cg _).out.mono ?_;rintro e wz ⟨rfl,hbz⟩;have HFz:=hid (HFF.out.below hbz);have q0:wz.cell? ⟨w.heap.size,0,none⟩=some (.int .i64 0):=HFz.out.cell 0;have q1:wz.cell? ⟨w.heap.size,1,none⟩=some (.int .i64 0):=HFz.out.cell 1;have q2:wz.frozen? ⟨w.heap.size,0,none⟩=false:=HFz.out.free 0;have q3:wz.frozen? ⟨w.heap.size,1,none⟩=false:=HFz.out.free 1
        go_wp2;refine Yej (v:= .tuple #[u16,.agg #[.int .i64 0,.int .i64 (-1)]]) (by simp[results,results12,go_sem,q0,q1]) rfl ?_;have hgF:g≠w.heap.size:=Z7;have bZ:Below wr.heap.size wr wz:=hbz;have hrF:(Value.slice A1 r.length c1).ownBlock≠some w.heap.size:=HRF.out;have e1:=Y23 (Y23 (Y2 HOW.out bZ) w.heap.size 0 (.int .i64 0) HOF.out) w.heap.size 1 (.int .i64 (-1)) HOF.out
        have e2:=Y23 (Y23 (Y2 HNS.out.hrv bZ) w.heap.size 0 (.int .i64 0) hrF) w.heap.size 1 (.int .i64 (-1)) hrF;have e3:=((HNS.out.blk.below bZ).far (p:=⟨w.heap.size,0,none⟩) hgF (.int .i64 0)).far (p:=⟨w.heap.size,1,none⟩) hgF (.int .i64 (-1));have e4:=((HKK.out.below bZ).set ⟨w.heap.size,0,none⟩ (.int .i64 0) (.inr (Ye9 _))).set ⟨w.heap.size,1,none⟩ (.int .i64 (-1)) (.inr (Ye9 _))
        exact⟨⟨_,_,by rw[HE.out];rfl,by rw[HY.out];exact e1,by rw[HY.out];exact⟨e3,HN.out.hov.kept HN.out.so e4,e2,HNS.out.sg,HNS.out.so⟩,HRB.out⟩,e4⟩
 ·have HE:=hid (Y5u offers rec login hp0);have HO:=hid (show Ycs own offers rec login disc=([],rec) by unfold Ycs;rw[HE.out,Yed hp0]);rw[Yeh hp0];have q0:w2.cell? ⟨w.heap.size,0,none⟩=some (.int .i64 0):=F3.cell 0;have q1:w2.cell? ⟨w.heap.size,1,none⟩=some (.int .i64 0):=F3.cell 1;have q2:w2.frozen? ⟨w.heap.size,0,none⟩=false:=F3.free 0;have q3:w2.frozen? ⟨w.heap.size,1,none⟩=false:=F3.free 1
  go_wp2;go_still_tail 2,(by kernel_rfl);change wpList _ _ _ _ _ w2.drew;go_wp2;refine Yej (v:= .tuple #[.slice none 0 0,.agg #[.int .i64 ((Yc offers).1:Nat),.int .i64 (Yc offers).2]]) (by simp[results,results12,go_sem,q0,q1]) rfl ?_;have bX:=(b2.drew.setCell (p:=⟨w.heap.size,0,none⟩) (Ye9 _) (.int .i64 ((Yc offers).1:Nat))).setCell (p:=⟨w.heap.size,1,none⟩) (Ye9 _) (.int .i64 (Yc offers).2)
  refine⟨⟨_,rv,by rw[HE.out];rfl,by rw[HO.out];exact YeD _ _ _ _,by rw[HO.out];exact hN.below bX,.inl rfl⟩,(Y1.refl _ _).below bX⟩
end
end
section
open Go.Proofs.Tryz
open Go Go.RowKit
theorem Y5K: ∀ (l:PL) (i:Nat),(Y2b l i).1=0→ ∀x∈l,Y2G x.1=true∧YV x.2=true
 | [],_,_,x,hx=>by cases hx
 | p :: l,i,h,x,hx=>by
  rw[Y2b]at h
  split at h
  ·simp at h
  ·rename_i h1
   split at h
   ·simp at h
   ·rename_i h2
    rcases Yf0.1 hx with rfl | hx
    ·exact⟨by simpa using h1,by simpa using h2⟩
    ·exact Y5K l (i+1) h x hx
theorem Y1G{l:PL}(h:(Yc l).1=0):l.length≤60∧ ∀k,(l.getD k ([],[])).2.length≤255:=by
 unfold Yc at h
 split at h
 ·simp at h
 ·rename_i h60
  refine⟨by omega,fun k=> ?_⟩;rcases YeU k l.length with hk | hk
  ·have:=(Y5K l 0 h (l.getD k ([],[])) (by rw[List.getD,Yec hk];exact YfD hk)).2;unfold YV at this;rw[Yf9,YfS]at this;exact this.2
  ·rw[List.getD,Yfq hk];exact Z2t
theorem Z3a{P:Prop}(h:P:=by
 rcases rb with h1 | ⟨q',h1,h2⟩
 ·rw[h1]
  exact h.ap q hq
 ·rw[h1]
  intro e
  have h3:=Yey e
  have h4:=(h.X.hrv.lt q hq).2
  exact Z7):P:=h
theorem Z3b{P:Prop}(h:P:=by
 rcases rb with h1 | ⟨q',h1,h2⟩
 ·exact h.ap q (h1 ▸hq)
 ·rw[h1]at hq
  have h3:=Yey hq
  intro e
  have h4:=(h.R.hrv.lt q e).2
  exact Z7):P:=h
section
variable (v:Value)(l:PL)(w:World)(h:PSl w v l)(hbd:PBd l)(hg:Y2e w)
include h hbd hg
theorem new_all(hcap: ∀a c,v= .slice a l.length c→l.length≤c)(hT:AS w)(hev:EV w):Calls prog 9 #[v] w fun e w'=>Y6c l w e w':=by
 by_cases hp0:(Yc l).1≠0
 ·have cp:=hid (Y22 v l w h hbd);unfold Y2B at cp;exact Z1L
 ·have hgd:=Y1G (Yfa hp0);exact Ydn v l w h hbd Z7 hcap (fun k=>by have:=hgd.2 k;exact Z7) hg hT hev
theorem rnew_all(hP:PT w):Calls prog 8 #[v] w fun e w'=>Y5g v l w e w':=by
 by_cases hp0:(Yc l).1≠0
 ·refine Z27 ?_;intro cp cis HF HA;go_enter func8,ntmps8;go_wp2_with fail;refine cp.out.mono ?_;rintro e w1 ⟨rfl,hb1⟩;refine Z1m ?_;intro F1 b1 hp1 bB F2 p0 p1;go_wp2_with fail;refine(cis _ _ _).out.mono ?_;rintro e w2 ⟨rfl,hb2⟩;refine Z2h ?_;intro F3 b2 p0 p1;exact ZV
 ·have hgd:=Y1G (Yfa hp0);exact YaS v l w h hbd Z7 (fun k=>by have:=hgd.2 k;exact Z7) hP
end
theorem recP_bd{r:PL}{x:List UInt8×List UInt8}{is:List UInt8}{M:Nat}(hr: ∀y∈r,y.1.length≤M)(hx:x.1.length≤M):(recP r x is).length≤r.length+1∧ ∀y∈recP r x is,y.1.length≤M:=by
 unfold recP
 split
 ·exact⟨by omega,hr⟩
 ·refine⟨?_,fun y hy=> ?_⟩
  ·have:(Yi r x.1).length≤r.length:=YfB _ _;rw[Yem];simp only[YeH,YeV];exact Z7
  ·rcases YfN.1 hy with hy | hy
   ·exact hr y (YfR.1 hy).1
   ·simp at hy;rw[hy];exact hx
theorem Y9x(mine:PL)(login disc:Bool)(M:Nat): ∀ (l out r:PL),(∀y∈l,y.1.length≤M)→(∀y∈r,y.1.length≤M)→
 (Y1x mine login disc l (out,r)).1.length≤out.length+l.length∧(Y1x mine login disc l (out,r)).2.length≤r.length+l.length∧ ∀y∈ (Y1x mine login disc l (out,r)).2,y.1.length≤M
 | [],out,r,hl,hr=>⟨by simp[Y1x],by simp[Y1x],by simpa[Y1x]using hr⟩
 | x :: l,out,r,hl,hr=>by
  have hb:=recP_bd (is:=(Y69 mine x login disc).2) hr (hl x (by simp))
  have ih:=Y9x mine login disc M l (if(Y69 mine x login disc).1= []then out else out ++ [(x.1,(Y69 mine x login disc).1)]) (recP r x (Y69 mine x login disc).2) (fun y hy=>hl y (by simp[hy])) hb.2
  rw[Y1x]
  have ho:(if(Y69 mine x login disc).1= []then out else out ++ [(x.1,(Y69 mine x login disc).1)]).length≤out.length+1:=by split<;>simp
  simp only[YeH]
  exact⟨by omega,by omega,ih.2.2⟩
theorem outR_eq:Ycs=Y2T:=rfl
end
section
open Go.Proofs.Tryz
open Go Go.RowKit
theorem Y1.owns{S:Nat→Prop}{a w:World}(hk:Y1 S a w){base:Nat}{e:TypeId}{size n:Nat}{v:Value}{xs:List Value}(h:a.ownsRow base e size v n xs)(hn: ∀q,v.ownBlock=some q→ ¬S q):w.ownsRow base e size v n xs:=by
 exact Z20
structure Y7I(w wr:World)(gx gr:Nat)(ov mv rvx rvr:Value)(own rx rr:PL):Prop where
 X:Y9E wr w.heap.size gx ov rvx own rx
 R:Y4y wr w.heap.size gr mv rvr own rr
 hgx:w.heap.size≤gx
 hgr:w.heap.size≤gr
 ne:gx≠gr
 xr:rvx.ownBlock≠some gr
 rx':rvr.ownBlock≠some gx
 ap: ∀q,rvx.ownBlock=some q→rvr.ownBlock≠some q
 fo:Y3h ov own (SN gr rvr)
 fm:Y3h mv own (fun q=>w.heap.size≤q)
 b:Below w.heap.size w wr
section
variable {w wr:World}{gx gr:Nat}{ov mv rvx rvr:Value}{own rx rr:PL}
theorem Y7I.sx(h:Y7I w wr gx gr ov mv rvx rvr own rx rr): ∀q,SN gx rvx q→w.heap.size≤q:=fun q hq=>by
 rcases hq with rfl | hq
 ·exact h.hgx
 ·exact(h.X.hrv.lt q hq).1
theorem Y7I.sr(h:Y7I w wr gx gr ov mv rvx rvr own rx rr): ∀q,SN gr rvr q→w.heap.size≤q:=fun q hq=>by
 rcases hq with rfl | hq
 ·exact h.hgr
 ·exact(h.R.hrv.lt q hq).1
theorem Y7I.below{w1:World}(h:Y7I w wr gx gr ov mv rvx rvr own rx rr)(hb:Below wr.heap.size wr w1):Y7I w w1 gx gr ov mv rvx rvr own rx rr:=
 ⟨h.X.below hb,h.R.below hb,h.hgx,h.hgr,h.ne,h.xr,h.rx',h.ap,h.fo,h.fm,h.b.trans (hb.mono h.b.size)⟩
theorem Y7I.stepR{w1:World}{rvr':Value}{rr':PL}(h:Y7I w wr gx gr ov mv rvx rvr own rx rr)(hR:Y4y w1 w.heap.size gr mv rvr' own rr')(rb:rvr'.ownBlock=rvr.ownBlock∨ ∃q,rvr'.ownBlock=some q∧wr.heap.size≤q)(K:Y1 (SN gr rvr) wr w1):
 Y7I w w1 gx gr ov mv rvx rvr' own rx rr':=by
 have hxl:=h.X.blk.lt
 have hns: ¬SN gr rvr gx:=fun hs=>by
  rcases hs with hs | hs
  ·exact h.ne hs
  ·exact h.rx' hs
 refine⟨⟨K.blk h.X.blk hns,h.X.hov.kept h.fo K,K.owns h.X.hrv (fun q hq hs=>by
  rcases hs with rfl | hs
  ·exact h.xr hq
  ·exact h.ap q hq hs),h.X.sg,h.X.so⟩,hR,h.hgx,h.hgr,h.ne,h.xr,?_,?_,?_,h.fm,h.b.trans (K.toBelow h.sr h.b.size)⟩
 ·rcases rb with h1 | ⟨q,h1,h2⟩
  ·rw[h1];exact h.rx'
  ·rw[h1];intro e;exact Z2q
 ·intro q hq;exact Z3a
 ·rcases rb with h1 | ⟨q,h1,h2⟩
  ·refine h.fo.mono fun k hk=> ?_
   rcases hk with hk | hk
   ·exact .inl hk
   ·exact .inr (h1 ▸hk)
  ·rcases Y3h.lt h.X.hov with h0 | ⟨b',o',n',c',hv,hlt'⟩
   ·exact Z44
   ·rcases h.fo with h0 | ⟨b2,o2,n2,c2,hv2,hn2⟩
    ·exact Z44
    ·rw[hv]at hv2
     cases hv2
     refine .inr ⟨b',o',n',c',hv,fun hs=> ?_⟩;rcases hs with hs | hs
     ·exact hn2 (.inl hs)
     ·rw[h1]at hs;have:=Yey hs;exact Z7
theorem Y7I.stepX{w1:World}{rvx':Value}{rx2:PL}(h:Y7I w wr gx gr ov mv rvx rvr own rx rr)(hX:Y9E w1 w.heap.size gx ov rvx' own rx2)(rb:rvx'.ownBlock=rvx.ownBlock∨ ∃q,rvx'.ownBlock=some q∧wr.heap.size≤q)(K:Y1 (SN gx rvx) wr w1):
 Y7I w w1 gx gr ov mv rvx' rvr own rx2 rr:=by
 have hrl:=h.R.blk.lt
 have hns: ¬SN gx rvx gr:=fun hs=>by
  rcases hs with hs | hs
  ·exact h.ne hs.symm
  ·exact h.xr hs
 refine⟨hX,⟨K.blk h.R.blk hns,h.R.hov.kept (h.fm.mono h.sx) K,K.owns h.R.hrv (fun q hq hs=>by
  rcases hs with rfl | hs
  ·exact h.rx' hq
  ·exact h.ap q hs hq),h.R.sg,h.R.so⟩,h.hgx,h.hgr,h.ne,?_,h.rx',?_,h.fo,h.fm,h.b.trans (K.toBelow h.sx h.b.size)⟩
 ·rcases rb with h1 | ⟨q,h1,h2⟩
  ·rw[h1];exact h.xr
  ·rw[h1];intro e;exact Z2q
 ·intro q hq;exact Z3b
end
section
variable (g:Nat)(ov rv:Value)(rec:PL)(w:World)(h:PSl w rv rec)(hn:rec.length≤1048576)
include h hn
theorem Yak(hb:Blk w g 127 #[ov,rv]):Calls prog 24 #[.pointer (some ⟨g,0,none⟩)] w fun e w'=>(∃v',e= .returned v'∧w'.ownsRow w.heap.size 78 2 v' rec.length (Y0 rec))∧Below w.heap.size w w':=by
 have cc:=hid (Y9u rv rec w h hn);have n1:=hb.cell 1;refine Z3G ?_;clear n1;intro n1;clear hb;go_enter func24,ntmps24;go_wp2_with fail;refine cc.out.mono ?_;rintro e w1 ⟨⟨v',rfl,hv⟩,hb1⟩;have HV:=hid hv;clear hv;go_wp2;go_ret;exact⟨⟨_,rfl,HV.out⟩,hb1⟩
end
end
end Go.Proofs.YtfadikchijkcfaaGreatDoor
