/- nego.New, by the program. -/
import Derived.Test.YtfadikchijkcfaaGreatDoorParsePure
import Derived.Test.YtfadikchijkcfaaGreatDoorTCrowd
import Derived.Test.YtfadikchijkcfaaGreatDoorThick
import Derived.Test.YtfadikchijkcfaaGreatDoorResultR
import Derived.Test.YtfadikchijkcfaaGreatDoorAhs
import Derived.Deep.DeepCutAuto
import Derived.Test.YtfadikchijkcfaaGreatDoorRel
import Derived.Test.YtfadikchijkcfaaGreatDoorPairPrintR
import Derived.Test.YtfadikchijkcfaaGreatDoorOpen
import Derived.StillTailTactics
import Derived.Test.YtfadikchijkcfaaGreatDoorKeyOf
import Derived.Deep.QuietTactic
import Derived.BigQuiet
import Derived.Test.YtfadikchijkcfaaGreatDoorDelete
import Derived.Test.YtfadikchijkcfaaGreatDoorGather
set_option linter.unusedVariables false
set_option linter.unusedSectionVars false
set_option linter.unusedSimpArgs false
set_option maxRecDepth 100000
set_option maxHeartbeats 16000000
namespace Go.Proofs.YtfadikchijkcfaaGreatDoor
section
open Go.Proofs.Tryz
open Go Go.RowKit
def NegoAt(w:World)(B g:Nat)(own:PL):Prop:=
 ∃ov,B≤g∧w.heap[g]?=some (.cells #[ov,.slice none 0 0] 127 (0,0))∧w.ownsRow B 78 2 ov own.length (Y0 own)
def Y6c(l:PL)(w:World)(e:Ending)(w':World):Prop:=
 (∃p er,e= .returned (.tuple #[.pointer p,er])∧Y1c w' er (Y1j l).1 (Y1j l).2∧((Y1j l).1≠0→p=none)∧((Y1j l).1=0→ ∃g,p=some ⟨g,0,none⟩∧NegoAt w' w.heap.size g l))∧Below w.heap.size w w'
theorem YaV{w:World}{a:Option Addr}{n c:Nat}{l:PL}(h:PSl w (.slice a n c) l)(k:Nat)(hk:k≤l.length)(c':Nat):PSl w (.slice a k c') (l.take k):=by
 obtain⟨a',cap,hv,hl,hc⟩:=h
 cases hv
 have hlen:(l.take k).length=k:=Z1X;unfold PSl;rw[hlen];refine⟨a,c',rfl,by rw[Yr,hlen],?_⟩;by_cases h0:k=0
 ·exact Z44
 ·obtain⟨b,off,ha,hcell⟩:=hc.resolve_left Z7;refine .inr ⟨b,off,ha,fun j u hu=>hcell j u ?_⟩;have hj:j< (Y0 (l.take k)).length:=(Yek.1 hu).1;rw[←hu]
  conv=>lhs;rw[←YfA k l,YE]
  rw[Yfl hj]
theorem Y2A{w:World}{v:Value}{k:Nat}{pl:Int}(h:Y1c w v k pl)(hk:k=0):v= .nilIface:=by
 cases h with
 | nil=>rfl
 | bare k h=>omega
 | at_ k h=>omega
theorem Y3D{w:World}{v:Value}{k:Nat}{pl:Int}(h:Y1c w v k pl)(hk:k≠0): ∃T x,v= .iface T x:=by
 cases h with
 | nil=>exact absurd rfl hk
 | bare k h=>exact⟨_,_,rfl⟩
 | at_ k h=>exact⟨_,_,rfl⟩
def RNew(l:PL)(W:World)(i:Value)(wr:World):Prop:=
 ∃k:Nat,k≤l.length∧i= .int .i64 (k:Nat)∧Hid (Y3f l k)∧Below W.heap.size W wr
theorem Z1L{P:Prop}(h:P:=by
 have HE:=hid (Y4F l hp0)
 go_enter func9,ntmps9
 go_wp2_with fail
 refine cp.out.mono ?_
 rintro e w1 ⟨⟨er,rfl,her⟩,hb1⟩
 obtain⟨T,x,rfl⟩:=Y3D her hp0
 have hp1:=hp0
 clear hp1
 go_wp2
 go_ret2
 refine⟨⟨_,_,rfl,by rw[HE.out];exact her,fun _=>rfl,fun h0=>absurd Z4l hp0⟩,hb1⟩):P:=h
theorem Z2N{P:Prop}(h:P:=by
 go_region_with first
  | (go_at_call 38;refine(cf1 _ b6.drew).out.mono ?_;rintro e w7 ⟨rfl,hb7⟩)
 all_goals
  go_wp2_with fail
  go_meet
  exact⟨rfl,rfl,(Yea _ _).drew.trans hb7⟩):P:=h
section
variable (v:Value)(l:PL)(w:World)(h:PSl w v l)(hbd:PBd l)(hn:l.length≤1048576)(hcap: ∀a c,v= .slice a l.length c→l.length≤c)(hsz: ∀k,(l.getD k ([],[])).2.length≤100000)(hg:Y2e w)(hT:AS w)(hev:EV w)
include h hbd hn hcap hsz hg hT hev
theorem Ydn:Calls prog 9 #[v] w fun e w'=>Y6c l w e w':=by
 have cp:=hid (Y22 v l w h hbd);unfold Y2B at cp;by_cases hp0:(Yc l).1≠0
 ·exact Z1L
 ·have hp0':(Yc l).1=0:=Yfa hp0;have HAT:=hid (fun k hk hb ha=>YaZ l k hp0' hk hb ha);have HGD:=hid (fun ha=>Y7q l hp0' ha);have cf:=fun k W (hb:Below w.heap.size w W) (a:Option Addr) (c:Nat) (hv:v= .slice a l.length c) (hk:k≤l.length) (c':Nat) (key:List UInt8)=>hid (Y5a (.slice a k c') (l.take k) key W (YaV (n:=l.length) (c:=c) (by rw[←hv];exact h.below hb) k hk c') Z1X)
  have ck:=fun k W (hb:Below w.heap.size w W)=>hid (Y65 (l.getD k ([],[])).1 (l.getD k ([],[])).2 W (hsz k) (hT.below hb (Ye9 _)) (hev.below hb))
  have ct:=fun x k pl W (hb:Below w.heap.size w W) (hv:Y1c W x k pl)=>hid (Y4Q x k pl W (hg.below hb) hv)
  have cc:=fun W (hb:Below w.heap.size w W)=>hid (Y9u v l W (h.below hb) hn)
  rw[hp0']at cp;have hF:=h;obtain⟨sa,sc,rfl,_,_⟩:=hF;have hcs:=hcap _ _ rfl;have HS:=hid h;clear h hsz hg hT hev hp0 hp0' hcap;go_enter func9,ntmps9;go_wp2_with fail;refine cp.out.mono ?_;rintro e w1 ⟨⟨er,rfl,her⟩,hb1⟩;obtain rfl:=Y2A her rfl;clear her cp;go_wp2;go_loopw [17] (fun i wr=>RNew l w i wr) (fun i _=>l.length - (intOf i).toNat)
  case atStart=>exact⟨0,by omega,rfl,hid (fun j hj=>absurd hj Z7),hb1⟩
  case round =>
   obtain⟨k,hk,rfl,HA,hb⟩:=hrel;have hB:=hb.size;by_cases hlt:k<l.length
   ·obtain⟨_,b,o,c,hveq,hbl,hcell⟩:=(HS.out.below hb).open_.resolve_left Z1F
    cases hveq
    obtain⟨g0,g1⟩:=hcell k hlt;have HAT:=hid (HAT.out k hlt);have HGA:=hid (fun hk0=>HA.out.step hk0);have HGO:=hid HA.out;have cf1:=fun W hb=>cf k W hb (some ⟨b,o,none⟩) sc rfl hk sc (l.getD k ([],[])).1
    have ck1:=ck k;have HBK:=hid (show Ybj l k=if(Y2q (l.take k) (l.getD k ([],[])).1).2=true then 9 else Y2i (l.getD k ([],[])).1 (l.getD k ([],[])).2 from rfl);unfold Y3d at cf1;clear hcell cf ck cc HA;generalize l.getD k ([],[])=x at *;obtain⟨x1,x2⟩:=x;simp only at *;refine ZG ?_;intro W6 hW6 hA6;have b6:=hb.trans (hA6.mono hB);refine Zp ?_;intro p0 p1;refine Z3r ?_;intro hlt6;generalize Y2q (l.take k) x1=fp at *
    obtain⟨f1,f2⟩:=fp;simp only at *;have hk64:(k:Int)≤(sc:Int):=Z7;go_upto_region 7 with fail;go_cut [7,8] (fun s7 s8 wx=>s7= .string (bs f1)∧s8= .bool f2∧Below W6.heap.size W6 wx)
    case first =>
     exact Z2N
    case rest =>
     obtain⟨rfl,rfl,hb7⟩:=hcut;have b7:=b6.trans (hb7.mono b6.size);have p0:=(hb7.cell (p:=⟨wr.heap.size,0,none⟩) hlt6).trans p0;have p1:=(hb7.cell (p:=⟨wr.heap.size,1,none⟩) hlt6).trans p1;clear cf1
     cases f2 with
     | true =>
      have hbk:Ybj l k=9:=by rw[HBK.out];rfl
      have HE:=hid (show Y1j l=(9,(k:Int)) by rw[HAT.out (by rw[hbk];exact Z7) HGO.out,hbk]);clear hbk HBK HGA HAT HGO;go_wp2;go_ret2;refine⟨⟨_,_,rfl,by rw[HE.out];exact .at_ 9 Z7 _ wc.heap.size Z2t Z2t,fun _=>rfl,fun h0=>absurd Z4l Z7⟩,b7.alloc b7.size _⟩
     | false =>
      have hbk:Ybj l k=Y2i x1 x2:=by rw[HBK.out];rfl
      have ck2:=ck1 _ b7;rw[hbk]at HGA HAT;clear hbk HBK ck1;generalize Y2i x1 x2=F at *;by_cases hF:F=0
      ·subst hF;have HS2:=hid (HGA.out rfl);rw[YN]at ck2;clear HGA HAT HGO;go_wp2_with fail;refine ck2.out.mono ?_;rintro e w8 ⟨rfl,hb8⟩;go_wp2;refine⟨⟨k+1,by omega,by go_num,hid HS2.out,b7.trans (hb8.mono b7.size)⟩,by simp[intOf];omega⟩
      ·have hFp:0<F:=Z7;have HE:=hid (show Y1j l=(F,(k:Int))from HAT.out hF HGO.out);rw[Y1o _ _ hFp]at ck2;clear HGA HAT HGO hF;go_wp2_with fail;refine ck2.out.mono ?_;rintro e w8 ⟨rfl,hb8⟩;have b8:=b7.trans (hb8.mono b7.size);have ct1:=ct (.iface 36 (.int .i64 (F:Nat))) F (-1) w8 b8 (.bare F hFp);go_wp2_with fail;refine ct1.out.mono ?_;rintro e w9 ⟨rfl,hb9⟩;have b9:=b8.trans (hb9.mono b8.size)
       go_wp2;go_ret2;refine⟨⟨_,_,rfl,by rw[HE.out];exact .at_ F hFp _ w9.heap.size Z2t Z2t,fun _=>rfl,fun h0=>absurd Z4l Z7⟩,b9.alloc b9.size _⟩
   ·obtain rfl:k=l.length:=Z7;have HE:=hid (HGD.out HA.out);go_wp2_with fail;refine(cc _ hb).out.mono ?_;rintro e w2 ⟨⟨ov,rfl,hown⟩,hb2⟩;have b2:=hb.trans (hb2.mono hB);have hob:w2.ownsRow w.heap.size 78 2 ov l.length (Y0 l):=⟨hown.1,hown.2.elim Or.inl (fun⟨g,cap,cur,h1,h2,r⟩=>Or.inr ⟨g,cap,cur,h1,Yeu hB h2,r⟩)⟩;have HO:=hid hob;rcases hown.2 with ⟨rfl,_⟩ | ⟨og,ocap,ocur,rfl,_⟩
    all_goals
     clear hown hob;go_wp2;go_ret2;refine⟨⟨_,_,rfl,by rw[HE.out];exact .nil,fun h=>absurd (by rw[HE.out]) h,fun _=>⟨w2.heap.size,rfl,_,b2.size,YeC _ _,HO.out.alloc _⟩⟩,b2.alloc b2.size _⟩
end
end
section
open Go.Proofs.Tryz
open Go Go.RowKit
def RT1(ts:List (List UInt8))(W:World)(b:Nat)(i:Value)(wr:World):Prop:=
 ∃ (k:Nat) (seen:List (List UInt8)),k≤ts.length∧i= .int .i64 (k:Nat)∧Hid (∀y,seen.contains y=(ts.take k).contains y)∧Hid (YU (Y8T ts) k)∧Y1X wr b k seen∧b<wr.heap.size∧Below b W wr
def RT2(gs:GL)(W:World)(i:Value)(wr:World):Prop:=
 ∃k:Nat,k≤gs.length∧i= .int .i64 (k:Nat)∧Hid (YU (Y9J gs) k)∧Below W.heap.size W wr
def RT3(us:PL)(W:World)(b:Nat)(i:Value)(wr:World):Prop:=
 ∃ (k:Nat) (seen:List (List UInt8)),k≤us.length∧i= .int .i64 (k:Nat)∧Hid (∀y,seen.contains y=((us.take k).map (·.1)).contains y)∧Hid (YU (Y7L us) k)∧Y1X wr b k seen∧b<wr.heap.size∧Below b W wr
def ErrP(r:Nat×Int)(w:World)(e:Ending)(w':World):Prop:=(∃er,e= .returned er∧Y1c w' er r.1 r.2)∧Below w.heap.size w w'
theorem YcH(l:List (List UInt8))(seen:List (List UInt8))(k:Nat)(hk:k<l.length)(hse: ∀y,seen.contains y=(l.take k).contains y): ∀y,((l.getD k []) :: seen).contains y=(l.take (k+1)).contains y:=fun y=>by
 rw[Yeq hk,Yft,←hse,YeM,List.getD,Yec hk]
 simp only[YeM,YfJ,YfT,Yf2]
 rw[Bool.or_comm]
theorem userNe(n s:List UInt8)(W:World):(binOp .neq 26 (.agg #[.string (bs n),.string (bs s)]) (.agg #[.string ⟨#[]⟩,.string ⟨#[]⟩])).run prog W= .ok (.bool (!(n.length+s.length == 0))) W:=by
 simp only[go_sem]
 cases n<;>cases s<;>simp[go_sem]
theorem Z1j{P:Prop}(h:P:=by
 rw[HAT.out (by rw[hbk];exact Z7),hbk]):P:=h
theorem Z2w{P:Prop}(h:P:=by
 go_enter func50,ntmps50
 go_wp2
 go_ret
 exact⟨⟨_,rfl,by rw[HE.out];exact .bare 4 Z7⟩,b1⟩):P:=h
theorem Z2W{P:Prop}(h:P:=by
 exact⟨0,by omega,rfl,hid (Y3s _),Yea _ _⟩):P:=h
theorem Z57{P Q:Prop}(k:Q)(h:Q→P:=by
 have hov:=hid (Ya7 ts gs us sn ss lim own)
 have hatT:=hid (rightP_t ts gs us sn ss lim own)
 have hatG:=hid (rightP_g ts gs us sn ss lim own)
 have hatU:=hid (rightP_u ts gs us sn ss lim own)
 have hrest:=hid (Ya6 ts gs us sn ss lim own)
 have tn:=C.tn
 have gn:=C.gn
 have un:=C.un
 refine fun z_=>?_
 revert un;revert gn;revert tn;revert hrest;revert hatU;revert hatG;revert hatT;revert hov
 exact z_):P:=h k
section
variable (ta ga ua oa:Option Addr)(tc gc uc oc:Nat)(ts:List (List UInt8))(gs:GL)(us:PL)(sn ss:List UInt8)(lim:Int)(own:PL)(w:World)
 (C:YD w ts gs us sn ss lim own (.slice ta ts.length tc) (.slice ga gs.length gc) (.slice ua us.length uc) (.slice oa own.length oc))
 (hsz: ∀k,(own.getD k ([],[])).2.length≤100000) (hg:Y2e w) (hT:AS w) (hev:EV w)
include C hsz hg hT hev
theorem Yby:Calls prog 50 #[Y2I (.slice ta ts.length tc) (.slice ga gs.length gc) (.slice ua us.length uc) (.slice oa own.length oc) sn ss lim] w fun e w'=>ErrP (Yt ts gs us sn ss lim own) w e w':=by
 refine Z8 ?_;intro W1 hW1 b1 t0 t1 t2 t3 t4 t5 t6 z1;have HC:=hid C;refine Z57 ?_;intro hov hatT hatG hatU hrest tn gn un;unfold Y2I;by_cases h8:8<ts.length
 ·have d8:decide ((8:Int) < (ts.length:Int))=true:=Yel Z7;have HE:=hid (hov.out (.inl h8));clear h8 hov hatT hatG hatU hrest C;exact Z2w
 have d8:decide ((8:Int) < (ts.length:Int))=false:=Yeh Z7;by_cases h4:4<gs.length
 ·have d4:decide ((4:Int) < (gs.length:Int))=true:=Yel Z7;have HE:=hid (hov.out (.inr (.inl h4)));clear h8 h4 hov hatT hatG hatU hrest C;exact Z2w
 have d4:decide ((4:Int) < (gs.length:Int))=false:=Yeh Z7;by_cases hu8:8<us.length
 ·have du:decide ((8:Int) < (us.length:Int))=true:=Yel Z7;have HE:=hid (hov.out (.inr (.inr hu8)));clear h8 h4 hu8 hov hatT hatG hatU hrest C;exact Z2w
 have du:decide ((8:Int) < (us.length:Int))=false:=Yeh Z7;have hno: ¬YbO ts gs us:=by unfold YbO;exact Z7
 have hatT:=hid (hatT.out hno);have hatG:=hid (hatG.out hno);have hatU:=hid (hatU.out hno);have hrest:=hid (hrest.out hno);have n8:ts.length≤8:=Z7;have nu8:us.length≤8:=Z7;clear h8 h4 hu8 hov hno C;have hmm:=@run_makeMap prog;have hM0:=Y1X.made W1;have bM:=b1.alloc b1.size (.map #[] 0);have HM:=hid hM0;have hbM:=(Yea (w.heap.size+1) W1).alloc Z7 (.map #[] 0);have HbM:=hid hbM;clear hM0 hbM
 go_enter func50,ntmps50;go_wp2;go_loopw [34] (fun i wr=>RT1 ts W1 (w.heap.size+1) i wr) (fun i _=>ts.length - (intOf i).toNat)
 case atStart=>exact⟨0,[],by omega,rfl,hid (fun y=>by exact Z2t),hid (Y3s _),by simpa[z1]using HM.out,by simp[z1],HbM.out⟩
 case round =>
  obtain⟨k,seen,hk,rfl,hse,HA,hM,hbs,hb⟩:=hrel;have hB:=hb.size;have bw:=b1.trans (hb.mono Z7);have T0:=hid ((hb.cell (p:=⟨w.heap.size,0,none⟩) Z2t).trans t0);have T1:=hid ((hb.cell (p:=⟨w.heap.size,1,none⟩) Z2t).trans t1);have T2:=hid ((hb.cell (p:=⟨w.heap.size,2,none⟩) Z2t).trans t2);have T3:=hid ((hb.cell (p:=⟨w.heap.size,3,none⟩) Z2t).trans t3);have T4:=hid ((hb.cell (p:=⟨w.heap.size,4,none⟩) Z2t).trans t4)
  have T5:=hid ((hb.cell (p:=⟨w.heap.size,5,none⟩) Z2t).trans t5);have T6:=hid ((hb.cell (p:=⟨w.heap.size,6,none⟩) Z2t).trans t6);have HT1:=HC.out.ht;by_cases hlt:k<ts.length
  ·obtain⟨b,o,rfl,hbl,hcell⟩:=(HT1.below bw).open_ Z7;have g0:=hcell k hlt;have hx:=HC.out.tl k hlt;have HSE:=hid (YcH ts seen k hlt hse.out);have HGA:=hid (fun h0=>HA.out.step (k:=k) h0);have HAT:=hid (fun hb0=>hatT.out k hlt hb0 HA.out);have hcon:(ts.take k).contains (ts.getD k [])=seen.contains (ts.getD k []):=(hse.out _).symm;have HBK:=hid (show Y8T ts k=if YF (ts.getD k [])=true∧seen.contains (ts.getD k [])=false then 0 else 5 by unfold Y8T;rw[hcon])
   have ct:=fun W=>hid (Y4g (ts.getD k []) W hx)
   clear hcell hcon HT1;generalize ts.getD k []=x at *;have hxm:x.length≤9223372036854775807:=Z7
   cases hn:YF x with
   | false =>
    have hbk:Y8T ts k=5:=by rw[HBK.out,hn];rfl
    have HE:=hid (show Yt ts gs us sn ss lim own=(5,(k:Int)) from Z1j);rw[hn]at ct;clear hbk HBK HAT HGA hn;go_wp2_with fail;refine(ct _).out.mono ?_;rintro e w2 ⟨rfl,hb2⟩;have b2:=bw.trans (hb2.mono bw.size);go_wp2;go_ret;exact⟨⟨_,rfl,by rw[HE.out];exact .at_ 5 Z7 _ w2.heap.size Z2t Z2t⟩,b2.alloc b2.size _⟩
   | true =>
    rw[hn]at ct
    cases hcs:seen.contains x with
    | true =>
     have hbk:Y8T ts k=5:=by rw[HBK.out,hn,hcs];rfl
     have HE:=hid (show Yt ts gs us sn ss lim own=(5,(k:Int)) from Z1j);clear hbk HBK HAT HGA hn;go_wp2_with fail;refine(ct _).out.mono ?_;rintro e w2 ⟨rfl,hb2⟩;have b2:=bw.trans (hb2.mono bw.size);have hlk:=Y1X.look (Y16.below hM hb2) x hxm;rw[hcs]at hlk;go_wp2;go_ret;exact⟨⟨_,rfl,by rw[HE.out];exact .at_ 5 Z7 _ w2.heap.size Z2t Z2t⟩,b2.alloc b2.size _⟩
    | false =>
     have hbk:Y8T ts k=0:=by rw[HBK.out,hn,hcs];rfl
     have HG2:=hid (HGA.out hbk);clear hbk HBK HAT HGA hn;go_wp2_with fail;refine(ct _).out.mono ?_;rintro e w2 ⟨rfl,hb2⟩;have hM2:=Y16.below hM hb2;have hlk:=Y1X.look hM2 x hxm;rw[hcs]at hlk;obtain⟨W7,hput,hM7,hg7⟩:=Y1X.put hM2 Z7 x hxm;have b2:=hb.trans (hb2.mono Z7);have b7:=b2.grown hg7 (by have:=b2.size;exact Z7) (fun j hj=>by cases hj;exact Z7);go_wp2;refine⟨⟨k+1,x :: seen,by omega,by go_num,hid HSE.out,hid HG2.out,hM7,?_,b7⟩,by simp[intOf];omega⟩
     have h1:=hb2.size;have h2:=hg7.size;omega
  ·obtain rfl:k=ts.length:=Z7;have HNT:=hid HA.out;have hatG:=hid (hatG.out HNT.out);have hatU:=hid (hatU.out HNT.out);have hrest:=hid (hrest.out HNT.out);have t0:=T0.out;have t1:=T1.out;have t2:=T2.out;have t3:=T3.out;have t4:=T4.out;have t5:=T5.out;have t6:=T6.out
   rename World=>wo
   have hpw:w.heap.size<wo.heap.size:=Z7;clear hatT HT1 hM HA hse hb hB hbs HM HbM bM T0 T1 T2 T3 T4 T5 T6 b1 hW1 z1 hlt;go_wp2;go_loopw [57] (fun i wr=>RT2 gs wo i wr) (fun i _=>gs.length - (intOf i).toNat)
   case atStart=>exact Z2W
   case round =>
    obtain⟨k,hk,rfl,HA,hb⟩:=hrel;have hB:=hb.size;have bw2:=bw.trans (hb.mono bw.size);have hp2:w.heap.size<wr.heap.size:=Z7;have T0:=hid ((hb.cell (p:=⟨w.heap.size,0,none⟩) hpw).trans t0);refine Z1z ?_;intro T1 T2 T3 T4;have T5:=hid ((hb.cell (p:=⟨w.heap.size,5,none⟩) hpw).trans t5);have T6:=hid ((hb.cell (p:=⟨w.heap.size,6,none⟩) hpw).trans t6);have HG1:=hid (HC.out.hg.below bw2);by_cases hlt:k<gs.length
    ·obtain⟨_,b,o,c,hveq,hbl,hcell⟩:=HG1.out.open_.resolve_left Z1F
     cases hveq
     obtain⟨g0,g1⟩:=hcell k hlt;have hx:=HC.out.gl k hlt;have hz:=HC.out.capT k;have HGA:=hid (fun h0=>HA.out.step (k:=k) h0);have HAT:=hid (fun hb0=>hatG.out k hlt hb0 HA.out);have ct:=fun W=>hid (Y4g (gs.getD k ([],0)).1 W hx)
     have HBK:=hid (show Y9J gs k=if YF (gs.getD k ([],0)).1=false then 5 else if(gs.getD k ([],0)).2<0∨65535< (gs.getD k ([],0)).2 then 2 else 0 from rfl);clear hcell HG1;generalize gs.getD k ([],0)=x at *;obtain⟨x1,x2⟩:=x;simp only at *;obtain⟨W6,hW6⟩: ∃W6,wr.alloc (.cells #[.string (bs x1),.int .i64 x2] 111)=W6:=⟨_,rfl⟩;have hA6:Below wr.heap.size wr W6:=Z2O;have b6:=bw2.trans (hA6.mono bw2.size)
     have p0:W6.cell? ⟨wr.heap.size,0,none⟩=some (.string (bs x1)):=Z1s;have p1:W6.cell? ⟨wr.heap.size,1,none⟩=some (.int .i64 x2):=Z1s;refine Z3r ?_;intro hlt6
     cases hn:YF x1 with
     | false =>
      have hbk:Y9J gs k=5:=by rw[HBK.out,hn];rfl
      have HE:=hid (show Yt ts gs us sn ss lim own=(5,(k:Int)) from Z1j);rw[hn]at ct;clear hbk HBK HAT HGA hn;go_wp2_with fail;refine(ct _).out.mono ?_;rintro e w2 ⟨rfl,hb2⟩;have b2:=b6.trans (hb2.mono b6.size);go_wp2;go_ret;exact⟨⟨_,rfl,by rw[HE.out];exact .at_ 5 Z7 _ w2.heap.size Z2t Z2t⟩,b2.alloc b2.size _⟩
     | true =>
      rw[hn]at ct;by_cases hzz:x2<0∨65535<x2
      ·have hbk:Y9J gs k=2:=by rw[HBK.out,hn,Yed Z2t,Yei hzz]
       have HE:=hid (show Yt ts gs us sn ss lim own=(2,(k:Int)) from Z1j);clear hbk HBK HAT HGA hn;by_cases hz0:x2<0
       ·have dz:decide (x2<0)=true:=Yel hz0;clear hzz;go_wp2_with fail;refine(ct _).out.mono ?_;rintro e w2 ⟨rfl,hb2⟩;have b2:=b6.trans (hb2.mono b6.size);have p0:=(hb2.cell (p:=⟨wr.heap.size,0,none⟩) hlt6).trans p0;have p1:=(hb2.cell (p:=⟨wr.heap.size,1,none⟩) hlt6).trans p1;go_wp2;go_ret;exact⟨⟨_,rfl,by rw[HE.out];exact .at_ 2 Z7 _ w2.heap.size Z2t Z2t⟩,b2.alloc b2.size _⟩
       ·have dz:decide (x2<0)=false:=Yeh hz0;have dz2:decide (65535<x2)=true:=Yel Z7;clear hzz;go_wp2_with fail;refine(ct _).out.mono ?_;rintro e w2 ⟨rfl,hb2⟩;have b2:=b6.trans (hb2.mono b6.size);have p0:=(hb2.cell (p:=⟨wr.heap.size,0,none⟩) hlt6).trans p0;have p1:=(hb2.cell (p:=⟨wr.heap.size,1,none⟩) hlt6).trans p1;go_wp2;go_ret;exact⟨⟨_,rfl,by rw[HE.out];exact .at_ 2 Z7 _ w2.heap.size Z2t Z2t⟩,b2.alloc b2.size _⟩
      ·have hbk:Y9J gs k=0:=by rw[HBK.out,hn,Yed Z2t,Yed hzz]
       have HG2:=hid (HGA.out hbk);have dz:decide (x2<0)=false:=Yeh Z7;have dz2:decide (65535<x2)=false:=Yeh Z7;clear hbk HBK HAT HGA hn hzz;go_wp2_with fail;refine(ct _).out.mono ?_;rintro e w2 ⟨rfl,hb2⟩;have p0:=(hb2.cell (p:=⟨wr.heap.size,0,none⟩) hlt6).trans p0;have p1:=(hb2.cell (p:=⟨wr.heap.size,1,none⟩) hlt6).trans p1;go_wp2;refine⟨⟨k+1,by omega,by go_num,hid HG2.out,(hb.trans (hA6.mono hB)).trans (hb2.mono Z7)⟩,by simp[intOf];omega⟩
    ·obtain rfl:k=gs.length:=Z7;have HNG:=hid HA.out;have hatU:=hid (hatU.out HNG.out);have hrest:=hid (hrest.out HNG.out);clear hatG HG1 HA hb hB bw hlt hpw t0 t1 t2 t3 t4 t5 t6
     rename World=>wo2
     have t2:=T2.out;have hM0:=Y1X.made wo2;have HM:=hid hM0;have hbM:=hid ((Yea wo2.heap.size wo2).alloc (Ye9 _) (.map #[] 0));have hmb:wo2.heap.size< (wo2.alloc (.map #[] 0)).heap.size:=Z2t;have t2m:=(hbM.out.cell (p:=⟨w.heap.size,2,none⟩) hp2).trans t2;clear hM0 t2;go_wp2;go_loopw [89] (fun i wr=>RT3 us wo2 wo2.heap.size i wr) (fun i _=>us.length - (intOf i).toNat)
     case atStart=>exact⟨0,[],by omega,rfl,hid (fun y=>by exact Z2t),hid (Y3s _),HM.out,hmb,hbM.out⟩
     case round =>
      obtain⟨k,seen,hk,rfl,hse,HA,hM,hbs,hb⟩:=hrel;have hB:=hb.size;have bw3:=bw2.trans (hb.mono bw2.size);have hp3:w.heap.size<wr.heap.size:=Z7;have t2:=(hb.cell (p:=⟨w.heap.size,2,none⟩) hp2).trans T2.out;have HU1:=hid (HC.out.hu.below bw3);by_cases hlt:k<us.length
      ·obtain⟨_,b,o,c,hveq,hbl,hcell⟩:=HU1.out.open_.resolve_left Z1F
       cases hveq
       obtain⟨g0,g1⟩:=hcell k hlt;have hx:=HC.out.ul k hlt
       have HSE:=hid (show ∀y,((us.getD k ([],[])).1 :: seen).contains y=((us.take (k+1)).map (·.1)).contains y from fun y=>by
        rw[Yeq hlt,Yfi,Yft,←hse.out,YeM,List.getD,Yec hlt];simp only[YeY,YfH,YeM,YfJ,YfT,Yf2]
        rw[Bool.or_comm])
       have HGA:=hid (fun h0=>HA.out.step (k:=k) h0);have HAT:=hid (fun hb0=>hatU.out k hlt hb0 HA.out);have ct1:=fun W=>hid (Y4g (us.getD k ([],[])).1 W hx.1)
       have ct2:=fun W=>hid (Y4g (us.getD k ([],[])).2 W hx.2)
       have hcon:((us.take k).map (·.1)).contains (us.getD k ([],[])).1=seen.contains (us.getD k ([],[])).1:=(hse.out _).symm;have HBK:=hid (show Y7L us k=if YF (us.getD k ([],[])).1=true∧YF (us.getD k ([],[])).2=true∧seen.contains (us.getD k ([],[])).1=false then 0 else 5 by unfold Y7L;rw[hcon]);have hxm:(us.getD k ([],[])).1.length≤9223372036854775807:=Z7;clear hcell HU1 hcon hx;generalize us.getD k ([],[])=x at *
       obtain⟨x1,x2⟩:=x;simp only at *;obtain⟨W6,hW6⟩: ∃W6,wr.alloc (.cells #[.string (bs x1),.string (bs x2)] 26)=W6:=⟨_,rfl⟩;have hA6:Below wr.heap.size wr W6:=Z2O;have b6:=bw3.trans (hA6.mono bw3.size);refine Zp ?_;intro p0 p1;refine Z3r ?_;intro hlt6;have hM6:=Y16.below hM hA6
       cases hn1:YF x1 with
       | false =>
        have hbk:Y7L us k=5:=by rw[HBK.out,hn1];rfl
        have HE:=hid (show Yt ts gs us sn ss lim own=(5,(k:Int)) from Z1j);rw[hn1]at ct1;clear hbk HBK HAT HGA hn1;go_wp2_with fail;refine(ct1 _).out.mono ?_;rintro e w2 ⟨rfl,hb2⟩;have b2:=b6.trans (hb2.mono b6.size);go_wp2;go_ret;exact⟨⟨_,rfl,by rw[HE.out];exact .at_ 5 Z7 _ w2.heap.size Z2t Z2t⟩,b2.alloc b2.size _⟩
       | true =>
        rw[hn1]at ct1
        cases hn2:YF x2 with
        | false =>
         have hbk:Y7L us k=5:=by rw[HBK.out,hn1,hn2];rfl
         have HE:=hid (show Yt ts gs us sn ss lim own=(5,(k:Int)) from Z1j);rw[hn2]at ct2;clear hbk HBK HAT HGA hn1 hn2;go_wp2_with fail;refine(ct1 _).out.mono ?_;rintro e w2 ⟨rfl,hb2⟩;have b2:=b6.trans (hb2.mono b6.size);have p0:=(hb2.cell (p:=⟨wr.heap.size,0,none⟩) hlt6).trans p0;have p1:=(hb2.cell (p:=⟨wr.heap.size,1,none⟩) hlt6).trans p1;go_wp2_with fail;refine(ct2 _).out.mono ?_;rintro e w3 ⟨rfl,hb3⟩
         have b3:=b2.trans (hb3.mono b2.size);go_wp2;go_ret;exact⟨⟨_,rfl,by rw[HE.out];exact .at_ 5 Z7 _ w3.heap.size Z2t Z2t⟩,b3.alloc b3.size _⟩
        | true =>
         rw[hn2]at ct2
         cases hcs:seen.contains x1 with
         | true =>
          have hbk:Y7L us k=5:=by rw[HBK.out,hn1,hn2,hcs];rfl
          have HE:=hid (show Yt ts gs us sn ss lim own=(5,(k:Int)) from Z1j);clear hbk HBK HAT HGA hn1 hn2;go_wp2_with fail;refine(ct1 _).out.mono ?_;rintro e w2 ⟨rfl,hb2⟩;have b2:=b6.trans (hb2.mono b6.size);have p0:=(hb2.cell (p:=⟨wr.heap.size,0,none⟩) hlt6).trans p0;have p1:=(hb2.cell (p:=⟨wr.heap.size,1,none⟩) hlt6).trans p1;have hlt7:wr.heap.size<w2.heap.size:=Yee hlt6 hb2.size
          have hM2:=Y16.below hM6 hb2;go_wp2_with fail;refine(ct2 _).out.mono ?_;rintro e w3 ⟨rfl,hb3⟩;have b3:=b2.trans (hb3.mono b2.size);have p0:=(hb3.cell (p:=⟨wr.heap.size,0,none⟩) hlt7).trans p0;have p1:=(hb3.cell (p:=⟨wr.heap.size,1,none⟩) hlt7).trans p1;have hlk:=Y1X.look (Y16.below hM2 hb3) x1 hxm;rw[hcs]at hlk;go_wp2;go_ret;exact⟨⟨_,rfl,by rw[HE.out];exact .at_ 5 Z7 _ w3.heap.size Z2t Z2t⟩,b3.alloc b3.size _⟩
         | false =>
          have hbk:Y7L us k=0:=by rw[HBK.out,hn1,hn2,hcs];rfl
          have HG2:=hid (HGA.out hbk);clear hbk HBK HAT HGA hn1 hn2;go_wp2_with fail;refine(ct1 _).out.mono ?_;rintro e w2 ⟨rfl,hb2⟩;have p0:=(hb2.cell (p:=⟨wr.heap.size,0,none⟩) hlt6).trans p0;have p1:=(hb2.cell (p:=⟨wr.heap.size,1,none⟩) hlt6).trans p1;have hlt7:wr.heap.size<w2.heap.size:=Yee hlt6 hb2.size;have hM2:=Y16.below hM6 hb2;go_wp2_with fail;refine(ct2 _).out.mono ?_;rintro e w3 ⟨rfl,hb3⟩
          have p0:=(hb3.cell (p:=⟨wr.heap.size,0,none⟩) hlt7).trans p0;have p1:=(hb3.cell (p:=⟨wr.heap.size,1,none⟩) hlt7).trans p1;have hM3:=Y16.below hM2 hb3;have hlk:=Y1X.look hM3 x1 hxm;rw[hcs]at hlk;obtain⟨W7,hput,hM7,hg7⟩:=Y1X.put hM3 Z7 x1 hxm;have hz2:=hb2.size;have hz3:=hb3.size;have b3:=((hb.trans (hA6.mono hB)).trans (hb2.mono Z7)).trans (hb3.mono Z7);have b7:=b3.grown hg7 (by have:=b3.size;exact Z7) (fun j hj=>by cases hj;exact Z7)
          go_wp2;refine⟨⟨k+1,x1 :: seen,by omega,by go_num,hid HSE.out,hid HG2.out,hM7,?_,b7⟩,by simp[intOf];omega⟩;have h2:=hg7.size;omega
      ·obtain rfl:k=us.length:=Z7;have HNU:=hid HA.out;have hrest:=hid (hrest.out HNU.out);have t3:=(hb.cell (p:=⟨w.heap.size,3,none⟩) hp2).trans T3.out;have t4:=(hb.cell (p:=⟨w.heap.size,4,none⟩) hp2).trans T4.out;have t5:=(hb.cell (p:=⟨w.heap.size,5,none⟩) hp2).trans T5.out;have t6:=(hb.cell (p:=⟨w.heap.size,6,none⟩) hp2).trans T6.out;have hsn:=HC.out.snl;have hss:=HC.out.ssl;have cnew:=fun W (hb:Below w.heap.size w W)=>Ydn _ own W (HC.out.ho.below hb) HC.out.pbd HC.out.on HC.out.capO hsz (hg.below hb) (hT.below hb (Ye9 _)) (hev.below hb)
       unfold Y6c at cnew;have ct1:=fun W=>hid (Y4g sn W hsn)
       have ct2:=fun W=>hid (Y4g ss W hss)
       have Cnew:=hid cnew;clear cnew hatU HU1 HA hM hse hbs hb hB bw2 hlt hbM t2m HM hmb T0 T1 T2 T3 T4 T5 T6 t2 HNT HNG HNU;have cnew:=fun W hb=>Cnew.out W hb
       by_cases he0:sn.length+ss.length=0
       ·have hs0:sn= []:=YeL.1 Z7;have hs1:ss= []:=YeL.1 Z7;have HR:=hid (show Yt ts gs us sn ss lim own=if lim<512∨100000<lim then(2,-1)else Y1j own by rw[hrest.out,Yed (by unfold Y40;rw[Yfb.2 he0];exact Z2t)]);have hneq:=fun W=>userNe sn ss W
        rw[Yfb.2 he0]at hneq;clear hrest he0 hs0 hs1 ct1 ct2;by_cases hl1:lim<512
        ·have dl1:decide (lim<512)=true:=Yel hl1;have HE:=hid (show Yt ts gs us sn ss lim own=(2,-1) by rw[HR.out,Yei (.inl hl1)]);clear HR hl1;go_wp2;go_ret;exact⟨⟨_,rfl,by rw[HE.out];exact .bare 2 Z7⟩,bw3⟩
        have dl1:decide (lim<512)=false:=Yeh hl1;by_cases hl2:100000<lim
        ·have dl2:decide (100000<lim)=true:=Yel hl2;have HE:=hid (show Yt ts gs us sn ss lim own=(2,-1) by rw[HR.out,Yei (.inr hl2)]);clear HR hl1 hl2;go_wp2;go_ret;exact⟨⟨_,rfl,by rw[HE.out];exact .bare 2 Z7⟩,bw3⟩
        have dl2:decide (100000<lim)=false:=Yeh hl2;have HE:=hid (show Yt ts gs us sn ss lim own=Y1j own by rw[HR.out,Yed Z7]);have cn:=hid (cnew _ (bw3));clear HR hl1 hl2;go_wp2_with fail;refine cn.out.mono ?_;rintro e w9 ⟨⟨p,er,rfl,her,_,_⟩,hb9⟩;go_wp2;go_ret;exact⟨⟨_,rfl,by rw[HE.out];exact her⟩,(bw3).trans (hb9.mono (bw3).size)⟩
       ·have hbe:(sn.length+ss.length == 0)=false:=Yen.2 he0;have hneq:=fun W=>userNe sn ss W
        rw[hbe]at hneq;have HSB:=hid (show Y40 sn ss= !(YF sn && YF ss) by unfold Y40;rw[hbe];rfl);clear hbe he0
        cases hn1:YF sn with
        | false =>
         have HE:=hid (show Yt ts gs us sn ss lim own=(3,-1) by rw[hrest.out,HSB.out,hn1,Yei (by rfl)]);rw[hn1]at ct1;clear hrest HSB hn1 ct2;go_wp2_with fail;refine(ct1 _).out.mono ?_;rintro e w2 ⟨rfl,hb2⟩;have b2:=bw3.trans (hb2.mono bw3.size);go_wp2;go_ret;exact⟨⟨_,rfl,by rw[HE.out];exact .bare 3 Z7⟩,b2⟩
        | true =>
         rw[hn1]at ct1
         cases hn2:YF ss with
         | false =>
          have HE:=hid (show Yt ts gs us sn ss lim own=(3,-1) by rw[hrest.out,HSB.out,hn1,hn2,Yei (by rfl)]);rw[hn2]at ct2;clear hrest HSB hn1 hn2;go_wp2_with fail;refine(ct1 _).out.mono ?_;rintro e w2 ⟨rfl,hb2⟩;have b2:=bw3.trans (hb2.mono bw3.size);have t4:=(hb2.cell (p:=⟨w.heap.size,4,none⟩) hp3).trans t4;go_wp2_with fail;refine(ct2 _).out.mono ?_;rintro e w3 ⟨rfl,hb3⟩;have b3:=b2.trans (hb3.mono b2.size)
          go_wp2;go_ret;exact⟨⟨_,rfl,by rw[HE.out];exact .bare 3 Z7⟩,b3⟩
         | true =>
          have HR:=hid (show Yt ts gs us sn ss lim own=if lim<512∨100000<lim then(2,-1)else Y1j own by rw[hrest.out,HSB.out,hn1,hn2,Yed Z2t]);rw[hn2]at ct2;clear hrest HSB hn1 hn2;go_wp2_with fail;refine(ct1 _).out.mono ?_;rintro e w2 ⟨rfl,hb2⟩;have b2:=bw3.trans (hb2.mono bw3.size);have hp4:w.heap.size<w2.heap.size:=Yee hp3 hb2.size;have t4:=(hb2.cell (p:=⟨w.heap.size,4,none⟩) hp3).trans t4
          have t5:=(hb2.cell (p:=⟨w.heap.size,5,none⟩) hp3).trans t5;have t6:=(hb2.cell (p:=⟨w.heap.size,6,none⟩) hp3).trans t6;go_wp2_with fail;refine(ct2 _).out.mono ?_;rintro e w3 ⟨rfl,hb3⟩;have b3:=b2.trans (hb3.mono b2.size);have t5:=(hb3.cell (p:=⟨w.heap.size,5,none⟩) hp4).trans t5;have t6:=(hb3.cell (p:=⟨w.heap.size,6,none⟩) hp4).trans t6;by_cases hl1:lim<512
          ·have dl1:decide (lim<512)=true:=Yel hl1;have HE:=hid (show Yt ts gs us sn ss lim own=(2,-1) by rw[HR.out,Yei (.inl hl1)]);clear HR hl1;go_wp2;go_ret;exact⟨⟨_,rfl,by rw[HE.out];exact .bare 2 Z7⟩,b3⟩
          have dl1:decide (lim<512)=false:=Yeh hl1;by_cases hl2:100000<lim
          ·have dl2:decide (100000<lim)=true:=Yel hl2;have HE:=hid (show Yt ts gs us sn ss lim own=(2,-1) by rw[HR.out,Yei (.inr hl2)]);clear HR hl1 hl2;go_wp2;go_ret;exact⟨⟨_,rfl,by rw[HE.out];exact .bare 2 Z7⟩,b3⟩
          have dl2:decide (100000<lim)=false:=Yeh hl2;have HE:=hid (show Yt ts gs us sn ss lim own=Y1j own by rw[HR.out,Yed Z7]);have cn:=hid (cnew _ (b3));clear HR hl1 hl2;go_wp2_with fail;refine cn.out.mono ?_;rintro e w9 ⟨⟨p,er,rfl,her,_,_⟩,hb9⟩;go_wp2;go_ret;exact⟨⟨_,rfl,by rw[HE.out];exact her⟩,(b3).trans (hb9.mono (b3).size)⟩
end
end
section
open Go.Proofs.Tryz
open Go Go.RowKit
theorem Y6P(l:PL)(key:List UInt8):(Y2q l key).2=(l.map (·.1)).contains key:=by
 induction l with
 | nil=>rfl
 | cons p l ih =>
  rw[Y2q,YeY,YeM];by_cases h:p.1=key
  ·rw[Yei h,h];simp
  ·rw[Yed h,ih,Yen.2 (fun e=>h e.symm),Yg6]
def RNegoAt(w:World)(B g:Nat)(v:Value):Prop:=B≤g∧w.heap[g]?=some (.cells #[v,.slice none 0 0] 84 (0,0))
def Y5g(v:Value)(l:PL)(w:World)(e:Ending)(w':World):Prop:=
 (∃p,e= .returned (.tuple #[.pointer p,YS (Y1j l).1 (Y1j l).2])∧((Y1j l).1≠0→p=none)∧((Y1j l).1=0→ ∃g,p=some ⟨g,0,none⟩∧RNegoAt w' w.heap.size g v))∧Below w.heap.size w w'
def Y7D(p:Nat)(w:World):Prop:=w.heap[p]?=some (.cells #[.int .i64 0,.int .i64 0] 38 (0,0))
theorem Y7D.c0{p:Nat}{w:World}(h:Y7D p w):w.cell? ⟨p,0,none⟩=some (.int .i64 0):=by rw[YeJ _ _ _ _ _ _ h];rfl
theorem Y7D.c1{p:Nat}{w:World}(h:Y7D p w):w.cell? ⟨p,1,none⟩=some (.int .i64 0):=by rw[YeJ _ _ _ _ _ _ h];rfl
theorem Y7D.f0{p:Nat}{w:World}(h:Y7D p w):w.frozen? ⟨p,0,none⟩=false:=Yfr _ _ _ _ _ h
theorem Y7D.f1{p:Nat}{w:World}(h:Y7D p w):w.frozen? ⟨p,1,none⟩=false:=Yfr _ _ _ _ _ h
theorem Y7D.lt{p:Nat}{w:World}(h:Y7D p w):p<w.heap.size:=(Yeo.1 h).1
theorem Y7D.below{p:Nat}{w w':World}(h:Y7D p w)(hb:Below w.heap.size w w'):Y7D p w':=(hb.block p h.lt).trans h
def RNewR(l:PL)(w:World)(b:Nat)(i:Value)(wr:World):Prop:=
 ∃ (k:Nat) (seen:List (List UInt8)),k≤l.length∧i= .int .i64 (k:Nat)∧Hid (∀y,seen.contains y=((l.take k).map (·.1)).contains y)∧Hid (Y3f l k)∧Y1X wr b k seen∧Y7D w.heap.size wr∧Below w.heap.size w wr∧b<wr.heap.size
theorem ZV{P:Prop}(h:P:=by
 have HE:=hid (Y4F l hp0)
 rw[Yeh hp0]
 have q0:=F3.c0
 have q1:=F3.c1
 have q2:=F3.f0
 have q3:=F3.f1
 go_wp2
 go_still_tail 2,(by kernel_rfl)
 change wpList _ _ _ _ _ w2.drew
 go_wp2
 refine Yej (v:= .tuple #[.pointer none,.agg #[.int .i64 ((Yc l).1:Nat),.int .i64 (Yc l).2]]) Z4h rfl ?_
 refine⟨⟨none,by rw[HE.out];rfl,fun _=>rfl,fun h0=>absurd Z4l hp0⟩,(b2.drew.setCell (p:=⟨w.heap.size,0,none⟩) (Ye9 _) _).setCell (p:=⟨w.heap.size,1,none⟩) (Ye9 _) _⟩):P:=h
theorem Z1m{P Q:Prop}(k:Q)(h:Q→P:=by
 have F1:=HF.out.below hb1
 have b1:=HA.out.trans (hb1.mono HA.out.size)
 have hp1:=F1.lt
 have bB:=b1.alloc b1.size (.cells #[.int .i64 ((Yc l).1:Nat),.int .i64 (Yc l).2] 38)
 have F2:Y7D w.heap.size (w1.alloc (.cells #[.int .i64 ((Yc l).1:Nat),.int .i64 (Yc l).2] 38)):=F1.below ((Yea _ _).alloc (Ye9 _) _)
 have p0:(w1.alloc (.cells #[.int .i64 ((Yc l).1:Nat),.int .i64 (Yc l).2] 38)).cell? ⟨w1.heap.size,0,none⟩=some (.int .i64 ((Yc l).1:Nat)):=Z2t
 have p1:(w1.alloc (.cells #[.int .i64 ((Yc l).1:Nat),.int .i64 (Yc l).2] 38)).cell? ⟨w1.heap.size,1,none⟩=some (.int .i64 (Yc l).2):=Z2t
 refine fun z_=>?_
 revert p1;revert p0;revert F2;revert bB;revert hp1;revert b1;revert F1
 exact z_):P:=h k
theorem Z27{P Q:Prop}(k:Q)(h:Q→P:=by
 have hA:=(Yea w.heap.size w).alloc (Ye9 _) (.cells #[.int .i64 0,.int .i64 0] 38)
 have F0:Y7D w.heap.size (w.alloc (.cells #[.int .i64 0,.int .i64 0] 38)):=YeC _ _
 have cp:=hid (Y33 v l _ (h.below hA) hbd)
 unfold Y3W YS at cp
 have cis:=fun k pl W=>hid (Y1u k pl W)
 unfold YS at cis
 have HF:=hid F0
 have HA:=hid hA
 clear F0 hA
 refine fun z_=>?_
 revert HA;revert HF;revert cis;revert cp
 exact z_):P:=h k
theorem Z2h{P Q:Prop}(k:Q)(h:Q→P:=by
 have F3:=F2.below hb2
 have b2:=bB.trans (hb2.mono bB.size)
 have p0:=(hb2.cell (p:=⟨w1.heap.size,0,none⟩) (by simp)).trans p0
 have p1:=(hb2.cell (p:=⟨w1.heap.size,1,none⟩) (by simp)).trans p1
 refine fun z_=>?_
 revert p1;revert p0;revert b2;revert F3
 exact z_):P:=h k
theorem Z4h{P:Prop}(h:P:=by
 simp[results,results8,go_sem,q0,q1]):P:=h
theorem Z4F{P:Prop}(h:P:=by
 rw[←hW2]
 exact Ze):P:=h
section
variable (v:Value)(l:PL)(w:World)(h:PSl w v l)(hbd:PBd l)(hn:l.length≤100000)(hsz: ∀k,(l.getD k ([],[])).2.length≤100000)(hP:PT w)
include h hbd hn hsz hP
theorem YaS:Calls prog 8 #[v] w fun e w'=>Y5g v l w e w':=by
 refine Z27 ?_;intro cp cis HF HA;go_enter func8,ntmps8;go_wp2_with fail;refine cp.out.mono ?_;rintro e w1 ⟨rfl,hb1⟩;refine Z1m ?_;intro F1 b1 hp1 bB F2 p0 p1;go_wp2_with fail;refine(cis _ _ _).out.mono ?_;rintro e w2 ⟨rfl,hb2⟩;refine Z2h ?_;intro F3 b2 p0 p1;by_cases hp0:(Yc l).1=0
 ·rw[Yel hp0];have HAT:=hid (fun k hk hb ha=>YaZ l k hp0 hk hb ha);have HGD:=hid (fun ha=>Y7q l hp0 ha);have ck:=fun k W (hb:Below w.heap.size w W)=>hid (Y4X (l.getD k ([],[])).1 (l.getD k ([],[])).2 W (hsz k))
  have hF:=h;obtain⟨sa,sc,rfl,_,_⟩:=hF;have HS:=hid h;have hmm:=@run_makeMap prog;have hM0:=Y1X.made w2;have bM:=b2.alloc b2.size (.map #[] 0);have FM:Y7D w.heap.size (w2.alloc (.map #[] 0)):=F3.below ((Yea _ _).alloc (Ye9 _) _);have hmb:w2.heap.size< (w2.alloc (.map #[] 0)).heap.size:=Z2t;have HM:=hid hM0;have HFM:=hid FM;clear h hsz hP hp0 cp p0 p1 hM0 FM;go_wp2;go_loopw [18] (fun i wr=>RNewR l w w2.heap.size i wr) (fun i _=>l.length - (intOf i).toNat)
  case atStart=>exact⟨0,[],by omega,rfl,hid (fun y=>by exact Z2t),hid (fun j hj=>absurd hj Z7),HM.out,HFM.out,bM,hmb⟩
  case round =>
   obtain⟨k,seen,hk,rfl,hse,HA,hM,hF,hb,hbb⟩:=hrel;have hB:=hb.size;have q0:=hF.c0;have q1:=hF.c1;have q2:=hF.f0;have q3:=hF.f1;by_cases hlt:k<l.length
   ·obtain⟨_,b,o,c,hveq,hbl,hcell⟩:=(HS.out.below hb).open_.resolve_left Z1F
    cases hveq
    obtain⟨g0,g1⟩:=hcell k hlt;have hx1:=(hbd.2 k).1;have HAT:=hid (HAT.out k hlt);have HGA:=hid (fun hk0=>HA.out.step hk0);have HGO:=hid HA.out;have hcon:(Y2q (l.take k) (l.getD k ([],[])).1).2=seen.contains (l.getD k ([],[])).1:=by rw[Y6P,hse.out]
    have HBK:=hid (show Ybj l k=if seen.contains (l.getD k ([],[])).1=true then 9 else Y2i (l.getD k ([],[])).1 (l.getD k ([],[])).2 by rw[←hcon];rfl)
    have HSE:=hid (show ∀y,((l.getD k ([],[])).1 :: seen).contains y=((l.take (k+1)).map (·.1)).contains y from fun y=>by
     rw[Yeq hlt,Yfi,Yft,←hse.out,YeM,List.getD,Yec hlt];simp only[YeY,YfH,YeM,YfJ,YfT,Yf2]
     rw[Bool.or_comm])
    have ck1:=ck k;clear hcell ck HA hcon hse;generalize l.getD k ([],[])=x at *;obtain⟨x1,x2⟩:=x;simp only at *;refine ZG ?_;intro W6 hW6 hA6;have b6:=hb.trans (hA6.mono hB);refine Zp ?_;intro p0 p1;have hM6:=Y16.below hM hA6;have hF6:=hF.below hA6;have q0:=hF6.c0;have q1:=hF6.c1;have q2:=hF6.f0;have q3:=hF6.f1;have hlk:=Y1X.look hM6 x1 hx1;have hwb:w.heap.size≤w2.heap.size:=b2.size
    cases hcs:seen.contains x1 with
    | true =>
     rw[hcs]at hlk;have hbk:Ybj l k=9:=by rw[HBK.out,hcs];rfl
     have HE:=hid (show Y1j l=(9,(k:Int)) by rw[HAT.out (by rw[hbk];exact Z7) HGO.out,hbk]);clear hbk HBK HGA HAT HGO HSE hcs;go_wp2;refine Yej (v:= .tuple #[.pointer none,.agg #[.int .i64 9,.int .i64 (k:Nat)]]) Z4h rfl ?_;refine⟨⟨none,by rw[HE.out];rfl,fun _=>rfl,fun h0=>absurd Z4l Z7⟩,(b6.setCell (p:=⟨w.heap.size,0,none⟩) (Ye9 _) _).setCell (p:=⟨w.heap.size,1,none⟩) (Ye9 _) _⟩
    | false =>
     rw[hcs]at hlk;have hbk:Ybj l k=Y2i x1 x2:=by rw[HBK.out,hcs];rfl
     obtain⟨W7,hput,hM7,hg7⟩:=Y1X.put hM6 Z7 x1 hx1;have b7:=b6.grown hg7 b6.size (fun j hj=>by cases hj;exact hwb);have hne1:wr.heap.size≠w2.heap.size:=Z7;have hs6:wr.heap.size<W6.heap.size:=Z1s;have hblk7: ∀g,g<W6.heap.size→g≠w2.heap.size→W7.heap[g]?=W6.heap[g]?:=fun g hg hne=>hg7.block g hg (by simpa using fun e=>hne e)
     have cell7: ∀g o,g<W6.heap.size→g≠w2.heap.size→W7.cell? ⟨g,o,none⟩=W6.cell? ⟨g,o,none⟩:=fun g o hg hne=>by unfold World.cell?;rw[hblk7 g hg hne]
     have p0:=(cell7 wr.heap.size 0 hs6 hne1).trans p0;have p1:=(cell7 wr.heap.size 1 hs6 hne1).trans p1;have hlw:=hF6.lt;have hF7:Y7D w.heap.size W7:=(hblk7 w.heap.size hlw (by have:=F3.lt;exact Z7)).trans hF6;have ck2:=ck1 _ b7;rw[hbk]at HGA HAT;clear hbk HBK ck1 hcs cell7 hblk7 q0 q1 q2 q3;generalize Y2i x1 x2=F at *;go_wp2_with fail;refine ck2.out.mono ?_;rintro e w8 ⟨rfl,hb8⟩;have b8:=b7.trans (hb8.mono b7.size)
     have hF8:=hF7.below hb8;have q0:=hF8.c0;have q1:=hF8.c1;have q2:=hF8.f0;have q3:=hF8.f1;by_cases hFz:F=0
     ·have hfi:((F:Int) !=0)=false:=by simp[hFz]
      have HS2:=hid (HGA.out hFz);have hM8:=Y16.below hM7 hb8;clear HGA HAT HGO hFz;go_wp2;refine⟨⟨k+1,x1 :: seen,by omega,by go_num,hid HSE.out,hid HS2.out,hM8,hF8,b8,?_⟩,by simp[intOf];omega⟩;have h1:=hb8.size;have h2:=hg7.size;omega
     ·have hfi:((F:Int) !=0)=true:=Zd;have HE:=hid (show Y1j l=(F,(k:Int))from HAT.out hFz HGO.out);clear HGA HAT HGO;go_wp2;refine Yej (v:= .tuple #[.pointer none,.agg #[.int .i64 (F:Nat),.int .i64 (k:Nat)]]) Z4h rfl ?_;refine⟨⟨none,by rw[HE.out];rfl,fun _=>rfl,fun h0=>absurd Z4l hFz⟩,(b8.setCell (p:=⟨w.heap.size,0,none⟩) (Ye9 _) _).setCell (p:=⟨w.heap.size,1,none⟩) (Ye9 _) _⟩
   ·obtain rfl:k=l.length:=Z7;have HE:=hid (HGD.out HA.out);have cg:=fun w1=>hid (Y1O w1)
    have hbN:=hb.alloc hB (.cells #[.slice sa l.length sc,.slice none 0 0] 84);have hFN:=hF.below ((Yea wr.heap.size wr).alloc (Ye9 _) (.cells #[.slice sa l.length sc,.slice none 0 0] 84));clear q0 q1 q2 q3;go_wp2_with fail;refine(cg _).out.mono ?_;rintro e w9 ⟨rfl,hb9⟩;have b9:=hbN.trans (hb9.mono hbN.size);have hF9:=hFN.below hb9;have q0:=hF9.c0;have q1:=hF9.c1;have q2:=hF9.f0;have q3:=hF9.f1
    have hN9:=(hb9.block wr.heap.size Z2t).trans (YeC wr (.cells #[.slice sa l.length sc,.slice none 0 0] 84));go_wp2;refine Yej (v:= .tuple #[.pointer (some ⟨wr.heap.size,0,none⟩),.agg #[.int .i64 0,.int .i64 (-1)]]) Z4h rfl ?_;have hlw:=hF.lt;refine⟨⟨some ⟨wr.heap.size,0,none⟩,by rw[HE.out];rfl,fun h0=>absurd (by rw[HE.out]) h0,fun _=>⟨wr.heap.size,rfl,hb.size,?_⟩⟩,(b9.setCell (p:=⟨w.heap.size,0,none⟩) (Ye9 _) _).setCell (p:=⟨w.heap.size,1,none⟩) (Ye9 _) _⟩
    rw[heap_setCell_other _ _ _ _ (by show wr.heap.size≠w.heap.size;exact Z7),heap_setCell_other _ _ _ _ (by show wr.heap.size≠w.heap.size;exact Z7)];exact hN9
 ·exact ZV
end
end
section
open Go.Proofs.Tryz
open Go Go.RowKit
theorem Y86{l:PL}{key:List UInt8}(h:Y2j Yh key=none):ofP l key=([],5):=by unfold ofP;rw[h]
theorem Y85{l:PL}{key:List UInt8}{k:KR}(h:Y2j Yh key=some k):ofP l key=(if(Y2q l key).2=true then(Y2q l key).1 else k.dv,0):=by unfold ofP;rw[h]
theorem dv_len: ∀k∈Yh,k.dv.length≤255:=by decide +kernel
theorem YdG{l:PL}{key:List UInt8}{B:Nat}(h: ∀k,(l.getD k ([],[])).2.length≤B):(Y2q l key).1.length≤B:=by
 induction l with
 | nil=>simp[Y2q]
 | cons x l ih =>
  rw[Y2q]
  split
  ·exact h 0
  ·exact ih fun k=>by have:=h (k+1);exact Z2Y
theorem Y87{l:PL}{key:List UInt8}{B:Nat}(h: ∀k,(l.getD k ([],[])).2.length≤B)(hB:255≤B):(ofP l key).1.length≤B:=by
 unfold ofP
 cases hk:Y2j Yh key with
 | none=>simp
 | some k =>
  simp only
  split
  ·exact YdG h
  ·exact Yeu (dv_len k (Yfy hk)) hB
theorem Z3G{P Q:Prop}(k:Q)(h:Q→P:=by
 simp only[Yf1,YeZ,YfW]at n1
 refine fun z_=>?_
 revert n1
 exact z_):P:=h k
theorem Z4x{P:Prop}(h:P:=by
 go_wp2_with fail
 refine co.out.mono ?_
 rintro e w1 ⟨rfl,hb1⟩
 go_wp2
 go_ret2
 exact⟨rfl,hb1⟩):P:=h
section
variable (g:Nat)(ov rv:Value)(own rec:PL)(key:List UInt8)(w:World)(hb:Blk w g 127 #[ov,rv])(hk:key.length≤9223372036854775807)(hT:AS w)
include hb hk hT
theorem nOwn_any(h:PSl w ov own)(hn:own.length≤9223372036854775807):Calls prog 95 #[.pointer (some ⟨g,0,none⟩),.string (bs key)] w fun e w'=>e= .returned (.tuple #[.string (bs (ofP own key).1),errV 36 (ofP own key).2])∧Below w.heap.size w w':=by
 have co:=hid (Y99 key w hT);unfold Y7G at co;have cf:=fun W (hb:Below w.heap.size w W)=>hid (Y5a ov own key W (h.below hb) hn)
 unfold Y3d at cf;have HN:=hid (@Y86 own key);have HS:=hid (fun k h=>@Y85 own key k h);have hgl:=hb.lt;have n0:=hb.cell 0;simp only[Yf1,YeZ]at n0
 cases hfk:Y2j Yh key with
 | none =>
  rw[hfk]at co;have HE:=hid (HN.out hfk);simp only[Y2s,Y2t]at co;rw[Y1o _ _ Z7]at co;clear HN HS hfk;go_enter func95,ntmps95;go_wp2_with fail;refine co.out.mono ?_;rintro e w1 ⟨rfl,hb1⟩;go_wp2;go_ret2;exact⟨by rw[HE.out];rfl,hb1.alloc hb1.size _⟩
 | some k =>
  rw[hfk]at co;have HE:=hid (HS.out _ hfk);simp only[Y2s,Y2t,KR.cells,YN]at co;generalize Y2q own key=fp at *;obtain⟨f1,f2⟩:=fp;simp only at *;clear HN HS hfk;go_enter func95,ntmps95;go_wp2_with fail;refine co.out.mono ?_;rintro e w1 ⟨rfl,hb1⟩;obtain⟨W2,hW2⟩: ∃W2,w1.alloc (.cells #[.string (bs k.name),.int .i64 (YA k.lk:Int),.int .i64 (YA k.ll:Int),.int .i64 (YA k.lh:Int),.string (bs k.dv),.bool (k.no == [78]),.bool (k.lo == [76])] 131)=W2:=⟨_,rfl⟩
  have hA2:Below w1.heap.size w1 W2:=Z4F;have b2:=hb1.trans (hA2.mono hb1.size);have d4:W2.cell? ⟨w1.heap.size,4,none⟩=some (.string (bs k.dv)):=Z4o;have hlt2:w1.heap.size<W2.heap.size:=Z4o;have n0:=(b2.cell (p:=⟨g,0,none⟩) hgl).trans n0;have cf2:=cf _ b2;go_wp2_with fail;refine cf2.out.mono ?_;rintro e w3 ⟨rfl,hb3⟩;have b3:=b2.trans (hb3.mono b2.size);have d4:=(hb3.cell (p:=⟨w1.heap.size,4,none⟩) hlt2).trans d4
  cases f2 with
  | true =>
   go_wp2;go_ret2;exact⟨by rw[HE.out];rfl,b3⟩
  | false =>
   go_wp2;go_ret2;exact⟨by rw[HE.out];rfl,b3⟩
theorem YbU(h:PSl w rv rec)(hn:rec.length≤9223372036854775807):Calls prog 159 #[.pointer (some ⟨g,0,none⟩),.string (bs key)] w fun e w'=>e= .returned (.tuple #[.string (bs (ofP rec key).1),errV 36 (ofP rec key).2])∧Below w.heap.size w w':=by
 have co:=hid (Y99 key w hT);unfold Y7G at co;have cf:=fun W (hb:Below w.heap.size w W)=>hid (Y5a rv rec key W (h.below hb) hn)
 unfold Y3d at cf;have HN:=hid (@Y86 rec key);have HS:=hid (fun k h=>@Y85 rec key k h);have hgl:=hb.lt;have n1:=hb.cell 1;refine Z3G ?_;clear n1;intro n1
 cases hfk:Y2j Yh key with
 | none =>
  rw[hfk]at co;have HE:=hid (HN.out hfk);simp only[Y2s,Y2t]at co;rw[Y1o _ _ Z7]at co;clear HN HS hfk;go_enter func159,ntmps159;go_wp2_with fail;refine co.out.mono ?_;rintro e w1 ⟨rfl,hb1⟩;go_wp2;go_ret2;exact⟨by rw[HE.out];rfl,hb1.alloc hb1.size _⟩
 | some k =>
  rw[hfk]at co;have HE:=hid (HS.out _ hfk);simp only[Y2s,Y2t,KR.cells,YN]at co;generalize Y2q rec key=fp at *;obtain⟨f1,f2⟩:=fp;simp only at *;clear HN HS hfk;go_enter func159,ntmps159;go_wp2_with fail;refine co.out.mono ?_;rintro e w1 ⟨rfl,hb1⟩;obtain⟨W2,hW2⟩: ∃W2,w1.alloc (.cells #[.string (bs k.name),.int .i64 (YA k.lk:Int),.int .i64 (YA k.ll:Int),.int .i64 (YA k.lh:Int),.string (bs k.dv),.bool (k.no == [78]),.bool (k.lo == [76])] 131)=W2:=⟨_,rfl⟩
  have hA2:Below w1.heap.size w1 W2:=Z4F;have b2:=hb1.trans (hA2.mono hb1.size);have d4:W2.cell? ⟨w1.heap.size,4,none⟩=some (.string (bs k.dv)):=Z4o;have hlt2:w1.heap.size<W2.heap.size:=Z4o;have n1:=(b2.cell (p:=⟨g,1,none⟩) hgl).trans n1;have cf2:=cf _ b2;go_wp2_with fail;refine cf2.out.mono ?_;rintro e w3 ⟨rfl,hb3⟩;have b3:=b2.trans (hb3.mono b2.size);have d4:=(hb3.cell (p:=⟨w1.heap.size,4,none⟩) hlt2).trans d4
  cases f2 with
  | true =>
   go_wp2;go_ret2;exact⟨by rw[HE.out];rfl,b3⟩
  | false =>
   go_wp2;go_ret2;exact⟨by rw[HE.out];rfl,b3⟩
end
theorem YcS(v:Value)(l:PL)(key:List UInt8)(w:World)(h:PSl w v l)(hn:l.length≤9223372036854775807)(hk:key.length≤9223372036854775807):
 Calls prog 90 #[v,.string (bs key)] w fun e w'=>e= .returned (.tuple #[.string (bs (ofP l key).1),.int .i64 ((ofP l key).2:Nat)])∧Below w.heap.size w w':=by
 have co:=hid (Y56 key w);have cf:=fun W (hb:Below w.heap.size w W)=>hid (YcV v l key W (h.below hb) hn)
 unfold Y3d at cf;have HN:=hid (@Y86 l key);have HS:=hid (fun k h=>@Y85 l key k h)
 cases hfk:Y2j Yh key with
 | none =>
  rw[hfk]at co;have HE:=hid (HN.out hfk);simp only[Y2s,Y2t]at co;clear HN HS hfk;go_enter func90,ntmps90;go_wp2_with fail;refine co.out.mono ?_;rintro e w1 ⟨rfl,hb1⟩;go_wp2;go_ret2;exact⟨by rw[HE.out];rfl,hb1.alloc hb1.size _⟩
 | some k =>
  rw[hfk]at co;have HE:=hid (HS.out _ hfk);simp only[Y2s,Y2t,KR.cells]at co;generalize Y2q l key=fp at *;obtain⟨f1,f2⟩:=fp;simp only at *;clear HN HS hfk;go_enter func90,ntmps90;go_wp2_with fail;refine co.out.mono ?_;rintro e w1 ⟨rfl,hb1⟩;obtain⟨W2,hW2⟩: ∃W2,w1.alloc (.cells #[.string (bs k.name),.int .i64 (YA k.lk:Int),.int .i64 (YA k.ll:Int),.int .i64 (YA k.lh:Int),.string (bs k.dv),.bool (k.no == [78]),.bool (k.lo == [76])] 131)=W2:=⟨_,rfl⟩
  have hA2:Below w1.heap.size w1 W2:=Z4F;have b2:=hb1.trans (hA2.mono hb1.size);have d4:W2.cell? ⟨w1.heap.size,4,none⟩=some (.string (bs k.dv)):=Z4o;have hlt2:w1.heap.size<W2.heap.size:=Z4o;have cf2:=cf _ b2;go_wp2_with fail;refine cf2.out.mono ?_;rintro e w3 ⟨rfl,hb3⟩;have b3:=b2.trans (hb3.mono b2.size);have d4:=(hb3.cell (p:=⟨w1.heap.size,4,none⟩) hlt2).trans d4
  cases f2 with
  | true =>
   go_wp2;go_ret2;exact⟨by rw[HE.out];rfl,b3⟩
  | false =>
   go_wp2;go_ret2;exact⟨by rw[HE.out];rfl,b3⟩
section
variable (g:Nat)(mv rv:Value)(key:List UInt8)(w:World)(hb:Blk w g 84 #[mv,rv])(hk:key.length≤9223372036854775807)
include hb hk
theorem rOwn_any(mine:PL)(h:PSl w mv mine)(hn:mine.length≤9223372036854775807):Calls prog 44 #[.pointer (some ⟨g,0,none⟩),.string (bs key)] w fun e w'=>e= .returned (.tuple #[.string (bs (ofP mine key).1),.int .i64 ((ofP mine key).2:Nat)])∧Below w.heap.size w w':=by
 have co:=hid (YcS mv mine key w h hn hk);have n0:=hb.cell 0;simp only[Yf1,YeZ]at n0;generalize ofP mine key=q at *;go_enter func44,ntmps44;exact Z4x
theorem YbK(rec:PL)(h:PSl w rv rec)(hn:rec.length≤9223372036854775807):Calls prog 108 #[.pointer (some ⟨g,0,none⟩),.string (bs key)] w fun e w'=>e= .returned (.tuple #[.string (bs (ofP rec key).1),.int .i64 ((ofP rec key).2:Nat)])∧Below w.heap.size w w':=by
 have co:=hid (YcS rv rec key w h hn hk);have n1:=hb.cell 1;refine Z3G ?_;clear n1;intro n1;generalize ofP rec key=q at *;go_enter func108,ntmps108;exact Z4x
end
end
section
open Go.Proofs.Tryz
open Go Go.RowKit
theorem Y9w{mine:PL}{x:List UInt8×List UInt8}{login disc:Bool}(h:Y2j Yh x.1=none):Y69 mine x login disc=(notU,[]):=by unfold Y69;rw[h]
theorem Y9v{mine:PL}{x:List UInt8×List UInt8}{login disc:Bool}{k:KR}(h:Y2j Yh x.1=some k):Y69 mine x login disc=(
 if(k.lo == [76])=true∧login=false then(Y3J,[])else
 if(k.no == [78])=true∧disc=true then(irrL,[])else
 if Y2i x.1 x.2≠0 then(Y3J,[])else
 if YA k.lk=6∨YA k.lk=7 then([],x.2)else
 if(Y75 x.1 x.2 (ofP mine x.1).1).2≠0 then(Y3J,[])else((Y75 x.1 x.2 (ofP mine x.1).1).1,(Y75 x.1 x.2 (ofP mine x.1).1).1)):=by
 unfold Y69;rw[h,Y6M h];rfl
section
variable (g:Nat)(ov rv:Value)(own:PL)(x1 x2:List UInt8)(login disc:Bool)(w:World)(hb:Blk w g 127 #[ov,rv])(h:PSl w ov own)(hn:own.length≤9223372036854775807)
 (h1:x1.length≤9223372036854775807) (h2:x2.length≤100000) (hsz: ∀k,(own.getD k ([],[])).2.length≤100000) (hT:AS w) (hev:EV w) (hP:PT w)
include hb h hn h1 h2 hsz hT hev hP
theorem Yal:Calls prog 46 #[.pointer (some ⟨g,0,none⟩),.agg #[.string (bs x1),.string (bs x2)],.bool login,.bool disc] w fun e w'=>e= .returned (.tuple #[.string (bs (Y69 own (x1,x2) login disc).1),.string (bs (Y69 own (x1,x2) login disc).2)])∧Below w.heap.size w w':=by
 obtain⟨W1,hW1⟩: ∃W1,w.alloc (.cells #[.string (bs x1),.string (bs x2)] 78)=W1:=⟨_,rfl⟩;have b1:Below w.heap.size w W1:=by rw[←hW1];exact Ze
 have p0:W1.cell? ⟨w.heap.size,0,none⟩=some (.string (bs x1)):=Z1J;have p1:W1.cell? ⟨w.heap.size,1,none⟩=some (.string (bs x2)):=Z1J;have z1:W1.heap.size=w.heap.size+1:=Z1J;have co:=fun W (hq:Below w.heap.size w W)=>hid (Y99 x1 W (hT.below hq (Ye9 _)))
 unfold Y7G at co;have cf:=fun W (hq:Below w.heap.size w W)=>hid (Y65 x1 x2 W h2 (hT.below hq (Ye9 _)) (hev.below hq))
 have cO:=fun W (hq:Below w.heap.size w W)=>hid (nOwn_any g ov rv own x1 W (hb.below hq) h1 (hT.below hq (Ye9 _)) (h.below hq) hn)
 have hol:=Y87 (key:=x1) hsz Z7;have cR:=fun W (hq:Below w.heap.size w W)=>hid (YbF x1 x2 (ofP own x1).1 W h2 hol (hT.below hq (Ye9 _)) (hP.below hq (Ye9 _)) (hev.below hq))
 have HN:=hid (@Y9w own (x1,x2) login disc);have HS:=hid (fun k h=>@Y9v own (x1,x2) login disc k h);have hpw:w.heap.size<W1.heap.size:=Z7;simp only at HN HS
 cases hfk:Y2j Yh x1 with
 | none =>
  have co:=co W1 b1;rw[hfk]at co;have HE:=hid (HN.out hfk);simp only[Y2s,Y2t]at co;rw[Y1o _ _ Z7]at co;clear HN HS hfk cf cO cR h hb;go_enter func46,ntmps46;go_wp2_with fail;refine co.out.mono ?_;rintro e w2 ⟨rfl,hb2⟩;go_wp2;go_ret2;exact⟨by rw[HE.out];rfl,(b1.trans (hb2.mono b1.size)).alloc (by have:=hb2.size;exact Z7) _⟩
 | some k =>
  have co:=co W1 b1;rw[hfk]at co;have HE:=hid (HS.out k hfk);simp only[Y2s,Y2t,KR.cells,YN]at co;generalize Y69 own (x1,x2) login disc=A at *;generalize ofP own x1=op at *;obtain⟨o1,o2⟩:=op;simp only at *;generalize Y75 x1 x2 o1=R at *;obtain⟨r1,r2⟩:=R;simp only at *;generalize Y2i x1 x2=F at *;generalize (k.no == [78])=bn at *;generalize (k.lo == [76])=bl at *;generalize YA k.lk=kd at *
  clear HN HS hfk h hb;go_enter func46,ntmps46;go_wp2_with fail;refine co.out.mono ?_;rintro e w2 ⟨rfl,hb2⟩;have b2:=b1.trans (hb2.mono b1.size);have p0:=(hb2.cell (p:=⟨w.heap.size,0,none⟩) hpw).trans p0;have p1:=(hb2.cell (p:=⟨w.heap.size,1,none⟩) hpw).trans p1;have hp2:w.heap.size<w2.heap.size:=Yee hpw hb2.size;obtain⟨W3,hW3⟩: ∃W3,w2.alloc (.cells #[.string (bs k.name),.int .i64 (kd:Int),.int .i64 (YA k.ll:Int),.int .i64 (YA k.lh:Int),.string (bs k.dv),.bool bn,.bool bl] 131)=W3:=⟨_,rfl⟩
  have hA3:Below w2.heap.size w2 W3:=by rw[←hW3];exact Ze
  have b3:=b2.trans (hA3.mono b2.size);have p0:=(hA3.cell (p:=⟨w.heap.size,0,none⟩) hp2).trans p0;have p1:=(hA3.cell (p:=⟨w.heap.size,1,none⟩) hp2).trans p1;have d1:W3.cell? ⟨w2.heap.size,1,none⟩=some (.int .i64 (kd:Int)):=by rw[←hW3];exact Z2t
  have d5:W3.cell? ⟨w2.heap.size,5,none⟩=some (.bool bn):=by rw[←hW3];exact Z2t
  have d6:W3.cell? ⟨w2.heap.size,6,none⟩=some (.bool bl):=by rw[←hW3];exact Z2t
  have hlt3:w2.heap.size<W3.heap.size:=by rw[←hW3];exact Z2t
  have hp3:w.heap.size<W3.heap.size:=Z7;go_upto_region 2 with fail;by_cases hA:bl=true∧login=false
  ·obtain⟨rfl,rfl⟩:=hA;have HF:=hid (show A=(Y3J,[]) by rw[HE.out,Yei ⟨rfl,rfl⟩]);clear HE;go_wp2;go_ret2;exact⟨by rw[HF.out];rfl,b3⟩
  have HE1:=hid (HE.out.trans (Yed hA));clear HE
  have hbl:bl=false∨(bl=true∧login=true):=by
   cases bl
   ·exact .inl rfl
   ·cases login
    ·exact absurd ⟨rfl,rfl⟩ hA
    ·exact .inr ⟨rfl,rfl⟩
  clear hA;by_cases hB:bn=true∧disc=true
  ·obtain⟨rfl,rfl⟩:=hB;have HF:=hid (show A=(irrL,[]) by rw[HE1.out,Yei ⟨rfl,rfl⟩]);clear HE1;rcases hbl with rfl | ⟨rfl,rfl⟩
   all_goals
    go_wp2;go_ret2;exact⟨by rw[HF.out];rfl,b3⟩
  have HE2:=hid (HE1.out.trans (Yed hB));clear HE1
  have hbn:bn=false∨(bn=true∧disc=false):=by
   cases bn
   ·exact .inl rfl
   ·cases disc
    ·exact .inr ⟨rfl,rfl⟩
    ·exact absurd ⟨rfl,rfl⟩ hB
  clear hB;have cf:=cf _ b3
  have d1k:((kd:Int) == 6)=decide (kd=6)∧((kd:Int) == 7)=decide (kd=7):=by
   refine⟨?_,?_⟩
   all_goals
    rw[Yg3,Yfb,YfS];omega
  by_cases hF:F=0
  ·subst hF;have HE3:=hid (HE2.out.trans (Yed Z2t));clear HE2;rw[YN]at cf;by_cases hk:kd=6∨kd=7
   ·have HF:=hid (show A=([],x2) by rw[HE3.out,Yei hk]);clear HE3 cO cR co;rcases hbl with rfl | ⟨rfl,rfl⟩ <;>rcases hbn with rfl | ⟨rfl,rfl⟩ <;>rcases hk with rfl | rfl
    all_goals
     go_wp2_with fail;refine cf.out.mono ?_;rintro e w4 ⟨rfl,hb4⟩;have b4:=b3.trans (hb4.mono b3.size);have p1:=(hb4.cell (p:=⟨w.heap.size,1,none⟩) hp3).trans p1;have d1:=(hb4.cell (p:=⟨w2.heap.size,1,none⟩) hlt3).trans d1;go_wp2_with fail;go_quiet (fail);go_wp2;go_ret2;exact⟨by rw[HF.out];rfl,⟨b4.os,b4.tape,b4.output,b4.size,b4.block⟩⟩
   ·have HE4:=hid (HE3.out.trans (Yed hk));clear HE3;have e6:((kd:Int) == 6)=false:=by rw[d1k.1];exact Yeh (fun h=>hk (.inl h))
    have e7:((kd:Int) == 7)=false:=by rw[d1k.2];exact Yeh (fun h=>hk (.inr h))
    clear d1k hk;rcases hbl with rfl | ⟨rfl,rfl⟩ <;>rcases hbn with rfl | ⟨rfl,rfl⟩
    all_goals
     go_wp2_with fail;refine cf.out.mono ?_;rintro e w4 ⟨rfl,hb4⟩;have b4:=b3.trans (hb4.mono b3.size);have p0:=(hb4.cell (p:=⟨w.heap.size,0,none⟩) hp3).trans p0;have p1:=(hb4.cell (p:=⟨w.heap.size,1,none⟩) hp3).trans p1;have d1:=(hb4.cell (p:=⟨w2.heap.size,1,none⟩) hlt3).trans d1;have hp4:w.heap.size<w4.heap.size:=Yee hp3 hb4.size;go_wp2_with fail;refine(cO _ b4).out.mono ?_;rintro e w5 ⟨rfl,hb5⟩
     have b5:=b4.trans (hb5.mono b4.size);have p0:=(hb5.cell (p:=⟨w.heap.size,0,none⟩) hp4).trans p0;have p1:=(hb5.cell (p:=⟨w.heap.size,1,none⟩) hp4).trans p1;go_wp2_with fail;refine(cR _ b5).out.mono ?_;rintro e w6 ⟨rfl,hb6⟩;have b6:=b5.trans (hb6.mono b5.size);by_cases hr:r2=0
     ·subst hr;have HF:=hid (show A=(r1,r1) by rw[HE4.out,Yed Z2t]);rw[YN];go_wp2;go_ret2;exact⟨by rw[HF.out];rfl,b6⟩
     ·have HF:=hid (show A=(Y3J,[]) by rw[HE4.out,Yei hr]);rw[Y1o _ _ (show 0<r2 from Z7)];clear hr;go_wp2;go_ret2;exact⟨by rw[HF.out];rfl,b6⟩
  ·have HF:=hid (show A=(Y3J,[]) by rw[HE2.out,Yei hF]);have hFp:0<F:=Z7;rw[Y1o _ _ hFp]at cf;clear HE2 cO cR co hF d1k;rcases hbl with rfl | ⟨rfl,rfl⟩ <;>rcases hbn with rfl | ⟨rfl,rfl⟩
   all_goals
    go_wp2_with fail;refine cf.out.mono ?_;rintro e w4 ⟨rfl,hb4⟩;go_wp2;go_ret2;exact⟨by rw[HF.out];rfl,b3.trans (hb4.mono b3.size)⟩
end
end
section
open Go.Proofs.Tryz
open Go Go.RowKit
structure Y9E(w:World)(B g:Nat)(ov rv:Value)(own rec:PL):Prop where
 blk:Blk w g 127 #[ov,rv]
 hov:PSl w ov own
 hrv:w.ownsRow B 78 2 rv rec.length (Y0 rec)
 sg:rv.ownBlock≠some g
 so:Y3h ov own (fun k=>k=g∨rv.ownBlock=some k)
theorem Y9E.below{w w':World}{B g:Nat}{ov rv:Value}{own rec:PL}(h:Y9E w B g ov rv own rec)(hb:Below w.heap.size w w'):Y9E w' B g ov rv own rec:=
 ⟨h.blk.below hb,h.hov.below hb,Y2 h.hrv hb,h.sg,h.so⟩
def Y2T(own:PL)(offers rec:PL)(login disc:Bool):PL×PL:=if(Y84 offers rec login).1=0 then Y1x own login disc offers ([],rec)else([],rec)
def RA1(offers rec:PL)(login:Bool)(w:World)(i:Value)(wr:World):Prop:=
 ∃k:Nat,k≤offers.length∧i= .int .i64 (k:Nat)∧Hid (∀j,j<k→Y2Z offers rec login j=false)∧Below w.heap.size w wr
def RA2(own offers rec:PL)(login disc:Bool)(B g:Nat)(ov rv:Value)(w:World)(o i:Value)(wr:World):Prop:=
 ∃ (k:Nat) (out r:PL) (rvk:Value),k≤offers.length∧i= .int .i64 (k:Nat)∧out.length≤k∧r.length≤rec.length+k∧wr.ownsRow w.heap.size 78 2 o out.length (Y0 out)∧
  Blk wr g 127 #[ov,rvk]∧wr.ownsRow B 78 2 rvk r.length (Y0 r)∧(rvk.ownBlock=rv.ownBlock∨ ∃q,rvk.ownBlock=some q∧w.heap.size≤q)∧
  (∀q,o.ownBlock=some q→rvk.ownBlock≠some q)∧Hid (Y1x own login disc offers ([],rec)=Y1x own login disc (offers.drop k) (out,r))∧Y1 (SN g rv) w wr
def Y8F(own offers rec:PL)(login disc:Bool)(B g:Nat)(ov rv:Value)(w:World)(e:Ending)(w':World):Prop:=
 (∃v er rv',e= .returned (.tuple #[v,er])∧Y1c w' er (Y84 offers rec login).1 (Y84 offers rec login).2∧w'.ownsRow w.heap.size 78 2 v (Y2T own offers rec login disc).1.length (Y0 (Y2T own offers rec login disc).1)∧
   Y9E w' B g ov rv' own (Y2T own offers rec login disc).2∧(rv'.ownBlock=rv.ownBlock∨ ∃q,rv'.ownBlock=some q∧w.heap.size≤q))∧Y1 (SN g rv) w w'
theorem Z20{P:Prop}(h:P:=by
 rcases h.2 with h0 | ⟨g,cap,cur,rfl,hb,hg,h3⟩
 ·exact⟨h.1,.inl h0⟩
 ·have hlt:g<a.heap.size:=by
   rcases YeU g a.heap.size with h1 | h1
   ·exact h1
   ·rw[YeA h1]at hg
    cases hg
  exact⟨h.1,.inr ⟨g,cap,cur,rfl,hb,(hk.block g hlt (hn g rfl)).trans hg,h3⟩⟩):P:=h
theorem Z2y{P Q:Prop}(k:Q)(h:Q→P:=by
 have S11:=HS9.out.recd (by first | exact(Yea _ _).alloc (Ye9 _) _ | exact((Yea _ _).alloc (Ye9 _) _).drew | exact(Yea _ _).drew.alloc (Ye9 _) _) (by simp) hgrow11 hown11 hat11
 have HS11:=hid S11.1
 have n11:w11.cell? ⟨g,1,none⟩=some (.slice A1 (Yi r x1).length c1):=S11.2.cell 1
 have f11:w11.frozen? ⟨g,1,none⟩=false:=S11.2.free 1
 refine fun z_=>?_
 revert f11;revert n11;revert HS11;revert S11
 exact z_):P:=h k
theorem Z3x{P Q:Prop}(k:Q)(h:Q→P:=by
 have hz10:=HS9.out.wW
 have n10:W10.cell? ⟨g,1,none⟩=some (.slice A1 (Yi r x1).length c1):=HS9.out.bN.cell 1
 have p10:W10.cell? ⟨wr.heap.size,0,none⟩=some (.string (bs x1)):=HS9.out.bP.cell 0
 have f10:W10.frozen? ⟨g,1,none⟩=false:=HS9.out.bN.free 1
 have hgW:=HS9.out.bN.lt
 have hpW:=HS9.out.bP.lt
 refine fun z_=>?_
 revert hpW;revert hgW;revert f10;revert p10;revert n10;revert hz10
 exact z_):P:=h k
section
variable (own offers rec:PL)(login disc:Bool)(B g:Nat)(ov rv v:Value)(w:World)(hN:Y9E w B g ov rv own rec)(hB:B≤w.heap.size)(h:PSl w v offers)(hfar:Y3h v offers (SN g rv))
 (hbd:PBd offers) (hn:(Yc offers).1=0→offers.length≤60∧ ∀k,(offers.getD k ([],[])).2.length≤100000) (hcap: ∀a c,v= .slice a offers.length c→offers.length≤c) (hrl:rec.length≤1000000)
 (hol:own.length≤1000000) (hsz: ∀k,(own.getD k ([],[])).2.length≤100000) (hT:AS w) (hev:EV w) (hP:PT w) (hAS: ∀w',Y1 (SN g rv) w w'→AS w'∧EV w'∧PT w')
include hN hB h hfar hbd hn hcap hrl hol hsz hT hev hP hAS
theorem Y6B:Calls prog 13 #[.pointer (some ⟨g,0,none⟩),v,.bool login,.bool disc] w fun e w'=>Y8F own offers rec login disc B g ov rv w e w':=by
 have cp:=hid (Y22 v offers w h hbd);unfold Y2B at cp;by_cases hp0:(Yc offers).1≠0
 ·have HE:=hid (Y5u offers rec login hp0);have HO:=hid (show Y2T own offers rec login disc=([],rec) by unfold Y2T;rw[HE.out,Yed hp0]);go_enter func13,ntmps13;go_wp2_with fail;refine cp.out.mono ?_;rintro e w1 ⟨⟨er,rfl,her⟩,hb1⟩;obtain⟨T,x,rfl⟩:=Y3D her hp0;clear hp0;go_wp2;go_ret2;refine⟨⟨_,_,rv,rfl,by rw[HE.out];exact her,by rw[HO.out];exact YeD _ _ _ _,by rw[HO.out];exact hN.below hb1,.inl rfl⟩,(Y1.refl _ _).below hb1⟩
 ·have hp0':(Yc offers).1=0:=Yfa hp0;have hn60:=hn hp0';have HAT:=hid (fun k hk hb ha=>Ydj offers rec login k hp0' hk hb ha);have HGD:=hid (fun ha=>Y98 offers rec login hp0' ha);rw[hp0']at cp;have hF:=h;obtain⟨sa,sc,rfl,_,_⟩:=hF;have hcs:=hcap _ _ rfl;have HS:=hid h;have cf1:=fun k W (hb:Below w.heap.size w W) (hk:k≤offers.length) (key:List UInt8)=>hid (Y5a (.slice sa k sc) (offers.take k) key W (YaV (n:=offers.length) (c:=sc) (h.below hb) k hk sc) Z1X)
  have cf2:=fun W (hb:Below w.heap.size w W) (key:List UInt8)=>hid (Y5a rv rec key W (Yx (Y2 hN.hrv hb)) Z7)
  unfold Y3d at cf1 cf2;have HN:=hid hN;have hgl:=hN.blk.lt;have n1:=hN.blk.cell 1;refine Z3G ?_;clear n1;intro n1;clear hN hp0 hp0' hcap hn h;go_enter func13,ntmps13;go_wp2_with fail;refine cp.out.mono ?_;rintro e w1 ⟨⟨er,rfl,her⟩,hb1⟩;obtain rfl:=Y2A her rfl;clear her cp;go_wp2;go_loopw [29] (fun i wr=>RA1 offers rec login w i wr) (fun i _=>offers.length - (intOf i).toNat)
  case atStart=>exact⟨0,by omega,rfl,hid (fun j hj=>absurd hj Z7),hb1⟩
  case round =>
   obtain⟨k,hk,rfl,HA,hb⟩:=hrel;have hBz:=hb.size;by_cases hlt:k<offers.length
   ·obtain⟨_,b,o,c,hveq,hbl,hcell⟩:=(HS.out.below hb).open_.resolve_left Z1F
    cases hveq
    obtain⟨g0,g1⟩:=hcell k hlt;have HAT:=hid (fun hb0=>HAT.out k hlt hb0 HA.out);have HBK:=hid (show Y2Z offers rec login k=(((Y2q (offers.take k) (offers.getD k ([],[])).1).2) || ((Y2q rec (offers.getD k ([],[])).1).2 && login)) by unfold Y2Z;rw[Y6P,Y6P]);have cf1:=fun W hb=>cf1 k W hb hk (offers.getD k ([],[])).1
    have cf2:=fun W hb=>cf2 W hb (offers.getD k ([],[])).1
    refine Z3S ?_;intro HST;clear hcell HA;generalize offers.getD k ([],[])=x at *;obtain⟨x1,x2⟩:=x;simp only at *;refine ZG ?_;intro W6 hW6 hA6;have b6:=hb.trans (hA6.mono hBz);refine Zp ?_;intro p0 p1;refine Z3r ?_;intro hlt6;have n1:=(b6.cell (p:=⟨g,1,none⟩) hgl).trans n1;generalize Y2q (offers.take k) x1=fp at *;obtain⟨f1,f2⟩:=fp;generalize Y2q rec x1=fq at *;obtain⟨q1,q2⟩:=fq;simp only at *
    have hk64:(k:Int)≤(sc:Int):=Z7;go_upto_region 7 with fail;go_cut [13,14] (fun s7 s8 wx=>s7= .string (bs f1)∧s8= .bool f2∧Below W6.heap.size W6 wx)
    case first =>
     exact Z2N
    case rest =>
     obtain⟨rfl,rfl,hb7⟩:=hcut;have b7:=b6.trans (hb7.mono b6.size);have p0:=(hb7.cell (p:=⟨wr.heap.size,0,none⟩) hlt6).trans p0;have n1:=(b7.cell (p:=⟨g,1,none⟩) hgl).trans ((b6.cell (p:=⟨g,1,none⟩) hgl).symm.trans n1);clear cf1
     rename World=>w7c
     go_upto_region 8 with fail;go_cut [15,16] (fun s7 s8 wx=>s7= .string (bs q1)∧s8= .bool q2∧Below w7c.heap.size w7c wx)
     case first =>
      go_region_with first
       | (go_at_call 38;refine(cf2 _ b7.drew).out.mono ?_;rintro e w8 ⟨rfl,hb8⟩)
      all_goals
       go_wp2_with fail;go_meet;exact⟨rfl,rfl,(Yea _ _).drew.trans hb8⟩
     case rest =>
      obtain⟨rfl,rfl,hb8⟩:=hcut;have b8:=b7.trans (hb8.mono b7.size);by_cases htw:(f2 || (q2 && login))=true
      ·have HE:=hid (show Y84 offers rec login=(9,(k:Int))from HAT.out (by rw[HBK.out,htw]));have HO:=hid (show Y2T own offers rec login disc=([],rec) by unfold Y2T;rw[HE.out];rfl);clear HAT HST HGD HBK cf2
       have hcs3:f2=true∨(f2=false∧q2=true∧login=true):=by
        cases f2
        ·cases q2
         ·simp at htw
         ·cases login
          ·simp at htw
          ·exact .inr ⟨rfl,rfl,rfl⟩
        ·exact .inl rfl
       clear htw;rcases hcs3 with rfl | ⟨rfl,rfl,rfl⟩
       all_goals
        go_wp2;go_ret2;refine⟨⟨_,_,rv,rfl,by rw[HE.out];exact .at_ 9 Z7 _ wc.heap.size Z2t Z2t,by rw[HO.out];exact YeD _ _ _ _,by rw[HO.out];exact HN.out.below (b8.alloc b8.size _),.inl rfl⟩,(Y1.refl _ _).below (b8.alloc b8.size _)⟩
      ·have hS:=hid (HST.out (show Y2Z offers rec login k=false by rw[HBK.out];exact Bool.eq_false_iff.2 htw));clear HAT HST HGD HBK cf2
       have hcs3:f2=false∧(q2=false∨(q2=true∧login=false)):=by
        cases f2
        ·cases q2
         ·exact⟨rfl,.inl rfl⟩
         ·cases login
          ·exact⟨rfl,.inr ⟨rfl,rfl⟩⟩
          ·simp at htw
        ·simp at htw
       clear htw;obtain⟨rfl,hq⟩:=hcs3;rcases hq with rfl | ⟨rfl,rfl⟩
       all_goals
        go_wp2;exact⟨⟨k+1,by omega,by go_num,hid hS.out,b8⟩,by simp[intOf];omega⟩
   ·obtain rfl:k=offers.length:=Z7;have HE:=hid (HGD.out HA.out);have HO:=hid (show Y2T own offers rec login disc=Y1x own login disc offers ([],rec) by unfold Y2T;rw[HE.out];rfl);refine Z32 ?_;intro hmf;have HK0:=hid ((Y1.refl (SN g rv) w).below hb);have HB0:=hid (HN.out.blk.below hb);have HR0:=hid (Y2 HN.out.hrv hb);have hlt2: ¬((offers.length:Int) < (offers.length:Int)):=Z7;clear HAT HGD HA cf1 cf2 n1 hb hBz hlt hk hb1
    rename World=>wo
    go_wp2;go_loopw [17,67] (fun o i wr=>RA2 own offers rec login disc B g ov rv w o i wr) (fun _ i _=>offers.length - (intOf i).toNat)
    case atStart=>exact⟨0,[],rec,rv,by omega,rfl,by simp,by omega,YeD _ _ _ _,HB0.out,HR0.out,.inl rfl,fun q hq=>by simp[Value.ownBlock]at hq,hid rfl,HK0.out⟩
    case round =>
     obtain⟨k,out,r,rvk,hk,rfl,hol1,hrl1,hown,hBk,hRk,hrb,hap,HX,HK⟩:=hrel;clear HB0 HR0 HK0 hlt2;have hwz:=HK.size;by_cases hlt:k<offers.length
     ·obtain⟨_,b,o,c,hveq,hbl,hcell⟩:=(HS.out.kept hfar HK).open_.resolve_left Z1F
      cases hveq
      obtain⟨g0,g1⟩:=hcell k hlt;have hx1:=(hbd.2 k).1;have hx2:=hn60.2 k;have HDR:=hid ((Y6W own login disc offers k (out,r) hlt));clear hcell;generalize offers.getD k ([],[])=x at *;obtain⟨x1,x2⟩:=x;simp only at *;have hgw:=hgl;refine ZG ?_;intro W6 hW6 hA6;refine Zp ?_;intro p0 p1;have K6:=HK.below hA6
      have hrg:rvk.ownBlock≠some g:=by
       rcases hrb with h | ⟨q,h,hq⟩
       ·rw[h];exact HN.out.sg
       ·rw[h];intro e
        cases e
        exact Z7
      have S6:NSt 127 w rv ov B g wr.heap.size x1 x2 W6 rvk r u17 out:=
       ⟨hBk.below hA6,by rw[←hW6];exact Blk.new _ _ _,Y2 hRk hA6,Y2 hown hA6,hrb,hap,fun e=>by have:=(hRk.lt _ e).2;omega,fun e=>by have:=(hown.lt _ e).2;omega,hrg,hgl,by omega,K6⟩
      obtain⟨as6,ev6,pt6⟩:=hAS _ K6;have cA:=hid (Yal g ov rvk own x1 x2 login disc W6 (hBk.below hA6) ((HN.out.hov.kept HN.out.so K6)) Z7 hx1 hx2 hsz as6 ev6 pt6);have HX2:=hid (HX.out.trans HDR.out);have HS6:=hid S6;clear K6 hown hBk hRk HK hap hrb HX HDR hA6 as6 ev6 pt6 S6 hrg;generalize Y69 own (x1,x2) login disc=A at *;obtain⟨a1,a2⟩:=A;simp only[recP]at cA HX2;by_cases h1:a1= []
      ·have e1:(a1 == [])=true:=by rw[h1];rfl
       rw[Yei h1]at HX2;clear h1;by_cases h2:a2= []
       ·have e2:(a2 == [])=true:=by rw[h2];rfl
        rw[Yei h2]at HX2;clear h2;go_wp2_with fail;refine cA.out.mono ?_;rintro e w7 ⟨rfl,hb7⟩;have S7:=hid (HS6.out.below hb7);clear HS6;go_wp2;exact⟨⟨k+1,out,r,rvk,by omega,by go_num,by first | omega | (simp;omega),by omega,S7.out.hO,S7.out.bN,S7.out.hR,S7.out.rb,S7.out.ap,hid HX2.out,S7.out.K⟩,by simp[intOf];omega⟩
       ·have e2:(a2 == [])=false:=Yen.2 h2;rw[Yed h2]at HX2;clear h2;go_wp2_with fail;refine cA.out.mono ?_;rintro e w7 ⟨rfl,hb7⟩;have S7:=hid (HS6.out.below hb7);clear HS6;have cD:=hid (Ybf B wr.heap.size rvk r x1 w7 S7.out.hR Z7 (S7.out.bP.cell 0) S7.out.pR);have n1:w7.cell? ⟨g,1,none⟩=some rvk:=S7.out.bN.cell 1;go_wp2_with fail;refine cD.out.mono ?_;rintro e w9 ⟨rv1,rfl,hown9,hg9,hb9⟩
        obtain⟨A1,c1,rfl⟩:=Y1I hown9;have S9:=S7.out.del hg9 hown9 hb9;have HS9:=hid S9.1;have n1:w9.cell? ⟨g,1,none⟩=some rvk:=S9.2.cell 1;have f1:w9.frozen? ⟨g,1,none⟩=false:=S9.2.free 1;have hwl:(Yi r x1).length≤r.length:=YfB _ _;clear S9 hown9 hg9 hb9 cD;go_wp2_with fail;generalize hW10:w9.setCell ⟨g,1,none⟩ (.slice A1 (Yi r x1).length c1)=W10 at *;refine Z3x ?_;intro hz10 n10 p10 f10 hgW hpW
        clear hW10 n1 f1;go_region_law (refine Y4s rfl (.tmp 103) (.tmp 108) 27 rfl B 78 (.agg #[.string ⟨#[]⟩,.string ⟨#[]⟩]) 2 32 underlying27 Yv rfl Z16 (.slice A1 (Yi r x1).length c1) (Yi r x1).length (Y0 (Yi r x1)) (by simp[Act.eval]) (HS9.out.hR.alloc _) ⟨W10.heap.size,0,none⟩ 1 1 [.string (bs x1),.string (bs a2)] (by simp[Act.eval]) rfl (YeW _ _ _ _) Z1H ZS Z7 Zd ?_;intro rv2 w11 hown11 hgrow11 hat11;refine Z2y ?_;intro S11 HS11 n11 f11;obtain⟨A2,c2,rfl⟩:=Y1I hown11;clear S11 hown11 hgrow11 hat11)
        all_goals
         go_wp2;exact⟨⟨k+1,out,Yi r x1 ++ [(x1,a2)],_,by omega,by go_num,by first | omega | (simp;omega),by rw[Yem];simp only[YeH,YeV];omega,HS11.out.hO,HS11.out.bN,HS11.out.hR,HS11.out.rb,HS11.out.ap,hid HX2.out,HS11.out.K⟩,by simp[intOf];omega⟩
      ·have e1:(a1 == [])=false:=Yen.2 h1;rw[Yed h1]at HX2;clear h1;by_cases h2:a2= []
       ·have e2:(a2 == [])=true:=by rw[h2];rfl
        rw[Yei h2]at HX2;clear h2;go_wp2_with fail;refine cA.out.mono ?_;rintro e w7 ⟨rfl,hb7⟩;have S7:=hid (HS6.out.below hb7);clear HS6;have p0:w7.cell? ⟨wr.heap.size,0,none⟩=some (.string (bs x1)):=S7.out.bP.cell 0;have p1:w7.cell? ⟨wr.heap.size,1,none⟩=some (.string (bs x2)):=S7.out.bP.cell 1;have hz7:=S7.out.wW;go_wp2_with (at_builtin;refine YY rfl (.tmp 81) (.tmp 86) 27 rfl w.heap.size 78 (.agg #[.string ⟨#[]⟩,.string ⟨#[]⟩]) 2 32 underlying27 Yv rfl Z16 _ out.length (Y0 out) rfl (S7.out.hO.alloc _) ⟨w7.heap.size,0,none⟩ 1 1 [.string (bs x1),.string (bs a1)] rfl rfl (YeW _ _ _ _) Z1H ZS Z7 Zd ?_;intro v' w8 hown8 hgrow hat;have S8:=hid (NSt.app (a1:=a1) S7.out hgrow hown8 hat);have hz8:=S8.out.wW;have n1:w8.cell? ⟨g,1,none⟩=some rvk:=S8.out.bN.cell 1;clear hown8 hgrow hat p0 p1)
        exact⟨⟨k+1,out ++ [(x1,a1)],r,rvk,by omega,by go_num,by first | omega | (simp;omega),by omega,S8.out.hO,S8.out.bN,S8.out.hR,S8.out.rb,S8.out.ap,hid HX2.out,S8.out.K⟩,by simp[intOf];omega⟩
       ·have e2:(a2 == [])=false:=Yen.2 h2;rw[Yed h2]at HX2;clear h2;go_wp2_with fail;refine cA.out.mono ?_;rintro e w7 ⟨rfl,hb7⟩;have S7:=hid (HS6.out.below hb7);clear HS6;have p0:w7.cell? ⟨wr.heap.size,0,none⟩=some (.string (bs x1)):=S7.out.bP.cell 0;have p1:w7.cell? ⟨wr.heap.size,1,none⟩=some (.string (bs x2)):=S7.out.bP.cell 1;have hz7:=S7.out.wW;go_wp2_with (at_builtin;refine YY rfl (.tmp 81) (.tmp 86) 27 rfl w.heap.size 78 (.agg #[.string ⟨#[]⟩,.string ⟨#[]⟩]) 2 32 underlying27 Yv rfl Z16 _ out.length (Y0 out) rfl (S7.out.hO.alloc _) ⟨w7.heap.size,0,none⟩ 1 1 [.string (bs x1),.string (bs a1)] rfl rfl (YeW _ _ _ _) Z1H ZS Z7 Zd ?_;intro v' w8 hown8 hgrow hat;have S8:=hid (NSt.app (a1:=a1) S7.out hgrow hown8 hat);have hz8:=S8.out.wW;have n1:w8.cell? ⟨g,1,none⟩=some rvk:=S8.out.bN.cell 1;clear hown8 hgrow hat p0 p1)
        have cD:=hid (Ybf B wr.heap.size rvk r x1 w8 S8.out.hR Z7 (S8.out.bP.cell 0) S8.out.pR);have n1:w8.cell? ⟨g,1,none⟩=some rvk:=S8.out.bN.cell 1;refine cD.out.mono ?_;rintro e w9 ⟨rv1,rfl,hown9,hg9,hb9⟩;obtain⟨A1,c1,rfl⟩:=Y1I hown9;have S9:=S8.out.del hg9 hown9 hb9;have HS9:=hid S9.1;have n1:w9.cell? ⟨g,1,none⟩=some rvk:=S9.2.cell 1;have f1:w9.frozen? ⟨g,1,none⟩=false:=S9.2.free 1
        have hwl:(Yi r x1).length≤r.length:=YfB _ _;clear S9 hown9 hg9 hb9 cD;go_wp2_with fail;generalize hW10:w9.setCell ⟨g,1,none⟩ (.slice A1 (Yi r x1).length c1)=W10 at *;refine Z3x ?_;intro hz10 n10 p10 f10 hgW hpW;clear hW10 n1 f1;go_region_law (refine Y4s rfl (.tmp 103) (.tmp 108) 27 rfl B 78 (.agg #[.string ⟨#[]⟩,.string ⟨#[]⟩]) 2 32 underlying27 Yv rfl Z16 (.slice A1 (Yi r x1).length c1) (Yi r x1).length (Y0 (Yi r x1)) (by simp[Act.eval]) (HS9.out.hR.alloc _) ⟨W10.heap.size,0,none⟩ 1 1 [.string (bs x1),.string (bs a2)] (by simp[Act.eval]) rfl (YeW _ _ _ _) Z1H ZS Z7 Zd ?_;intro rv2 w11 hown11 hgrow11 hat11;refine Z2y ?_;intro S11 HS11 n11 f11;obtain⟨A2,c2,rfl⟩:=Y1I hown11;clear S11 hown11 hgrow11 hat11)
        all_goals
         go_wp2;exact⟨⟨k+1,out ++ [(x1,a1)],Yi r x1 ++ [(x1,a2)],_,by omega,by go_num,by first | omega | (simp;omega),by rw[Yem];simp only[YeH,YeV];omega,HS11.out.hO,HS11.out.bN,HS11.out.hR,HS11.out.rb,HS11.out.ap,hid HX2.out,HS11.out.K⟩,by simp[intOf];omega⟩
     ·obtain rfl:k=offers.length:=Z7;have HY:=hid (show Y2T own offers rec login disc=(out,r) by rw[HO.out,HX.out,Y7C own login disc offers offers.length (out,r) (Ye9 _)])
      have HNS:=hid (show Y9E wr B g ov rvk own r from⟨hBk,HN.out.hov.kept HN.out.so HK,hRk,by
       rcases hrb with h | ⟨q,h,hq⟩
       ·rw[h];exact HN.out.sg
       ·rw[h];intro e;cases e;omega,by
       rcases hrb with h | ⟨q,h,hq⟩
       ·rw[h];exact HN.out.so
       ·rcases Y3h.lt HN.out.hov with h0 | ⟨b',o',n',c',hv,hlt'⟩
        ·exact .inl h0
        ·rcases HN.out.so with h0 | ⟨b2,o2,n2,c2,hv2,hn2⟩
         ·exact .inl h0
         ·rw[hv]at hv2
          cases hv2
          refine .inr ⟨b',o',n',c',hv,fun hs=> ?_⟩;rcases hs with hs | hs
          ·exact hn2 (.inl hs)
          ·rw[h]at hs;cases hs;omega⟩)
      have HOW:=hid hown;have HKK:=hid HK;have HRB:=hid hrb;have hlt3: ¬((offers.length:Int) < (offers.length:Int)):=Z7;clear hown hBk hRk hap HK hrb hlt hk HX HO HS;go_wp2;go_ret2;exact⟨⟨_,_,rvk,rfl,by rw[HE.out];exact .nil,by rw[HY.out];exact HOW.out,by rw[HY.out];exact HNS.out,HRB.out⟩,HKK.out⟩
end
end
end Go.Proofs.YtfadikchijkcfaaGreatDoor
