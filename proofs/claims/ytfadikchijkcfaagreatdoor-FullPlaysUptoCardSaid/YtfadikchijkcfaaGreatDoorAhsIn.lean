/- What may be a pair's key: the program's word. -/
import Derived.Test.YtfadikchijkcfaaGreatDoorParsePure
import Derived.Test.YtfadikchijkcfaaGreatDoorCells2
import Derived.Test.YtfadikchijkcfaaGreatDoorUnpad
import Derived.Test.YtfadikchijkcfaaGreatDoorChecked
import Derived.LaidLaws
import Derived.LaidSub
import Derived.LaidMore
import Derived.Lib.LaidTab
import GoSem.ClaimJoined
import Derived.Test.YtfadikchijkcfaaGreatDoorAhs
import Derived.Deep.SlicePairs
import Derived.OpenShut
set_option linter.unusedVariables false
set_option linter.unusedSectionVars false
set_option linter.unusedSimpArgs false
set_option maxRecDepth 100000
set_option maxHeartbeats 4000000
namespace Go.Proofs.YtfadikchijkcfaaGreatDoor
section
open Go.Proofs.Tryz
open Go.RowKit
def Y5W(b:UInt8):Bool:=decide (65≤b.toNat) && decide (b.toNat≤90)
def Y2N(b:UInt8):Bool:=(decide (97≤b.toNat) && decide (b.toNat≤122)) || (decide (48≤b.toNat) && decide (b.toNat≤57)) || decide (0≤Lib.indexByte [46,45,43,64,95] b)
def kOk(i:Nat)(b:UInt8):Bool:=Y5W b || (decide (0<i) && Y2N b)
def Y3b:Nat→List UInt8→Bool
 | _,[]=>true
 | i,b :: l=>kOk i b && Y3b (i+1) l
def Y2G(l:List UInt8):Bool:=Y3b 0 l && decide (1≤l.length) && decide (l.length≤63)
theorem ZU{P:Prop}(h:P:=by
 clear hlow h65 hdig h
 go_wp2_with (go_at_call 133;refine(c1 _).out.mono ?_;rintro e w1 ⟨rfl,rfl⟩)
 exact Z23):P:=h
theorem Z1e{P:Prop}(h:P:=by
 have x5:(48:Int)≤l[k].toNat:=Z7
 have x6: ¬(l[k].toNat:Int)≤57:=Z7
 exact Z3s):P:=h
theorem Z1l{P Q:Prop}(k:Q)(h:Q→P:=by
 have x1: ¬(65:Int)≤l[k].toNat:=Z7
 have x2:(l[k].toNat:Int)≤90:=Z7
 have x3: ¬(97:Int)≤l[k].toNat:=Z7
 have x4:(l[k].toNat:Int)≤122:=Z7
 refine fun z_=>?_
 revert x4;revert x3;revert x2;revert x1
 exact z_):P:=h k
theorem Z23{P:Prop}(h:P:=by
 go_roundw
 case rel=>exact⟨k+1,by omega,by go_num,by rw[Hall.out];simp,trivial⟩
 case measure=>exact Zw):P:=h
theorem Z2T{P:Prop}(h:P:=by
 have x5:(48:Int)≤l[k].toNat:=Z7
 have x6: ¬(l[k].toNat:Int)≤57:=Z7
 exact ZU):P:=h
theorem Z3s{P:Prop}(h:P:=by
 clear hlow h65 hdig h
 go_wp2_with (go_at_call 133;refine(c1 _).out.mono ?_;rintro e w1 ⟨rfl,rfl⟩)
 go_ret
 exact⟨by rw[Y2G,Hall.out];simp,rfl⟩):P:=h
theorem Z4d{P Q:Prop}(k:Q)(h:Q→P:=by
 have x1:(65:Int)≤l[k].toNat:=Z7
 have x2: ¬(l[k].toNat:Int)≤90:=Z7
 refine fun z_=>?_
 revert x2;revert x1
 exact z_):P:=h k
theorem key_any(l:List UInt8)(w:World)(hl:l.length≤9223372036854775807):
 Calls prog 83 #[.string (bs l)] w fun e w'=>e= .returned (.bool (Y2G l))∧w'=w:=by
 have hs:(⟨#[46,45,43,64,95]⟩:ByteArray)=bs [46,45,43,64,95]:=rfl;go_enter func83,ntmps83;go_wp2;go_loopw [8] (fun i wr=> ∃k:Nat,k≤l.length∧i= .int .i64 k∧Y3b 0 l=Y3b k (l.drop k)∧wr=w) (fun i _=>l.length - (intOf i).toNat)
 case atStart=>exact Z4X
 case round =>
  obtain⟨k,hk,rfl,hall,rfl⟩:=hrel;by_cases hlt:k<l.length
  ·have hx:l[k].toNat<256:=l[k].toNat_lt;rw[Yev hlt,Y3b]at hall;have Hall:=hid hall;clear hall;have hi:(k:Int) < (l.length:Int):=Z7;have c1:=fun w=>hid (Y1y [46,45,43,64,95] l[k] w Z2t)
   have gd:Y5W l[k]=(decide (65≤l[k].toNat) && decide (l[k].toNat≤90)):=rfl;have md:Y2N l[k]=((decide (97≤l[k].toNat) && decide (l[k].toNat≤122)) || (decide (48≤l[k].toNat) && decide (l[k].toNat≤57)) || decide (0≤Lib.indexByte [46,45,43,64,95] l[k])):=rfl;have Gd:=hid gd;have Md:=hid md;clear gd md;generalize Lib.indexByte [46,45,43,64,95] l[k]=ib at *;by_cases h65:65≤l[k].toNat∧l[k].toNat≤90
   ·have hk1:kOk k l[k]=true:=by rw[kOk,Gd.out];exact Zd
    rw[hk1]at Hall;obtain⟨h65a,h65b⟩:=h65;go_wp2;exact Z23
   ·have hg:Y5W l[k]=false:=by rw[Gd.out];exact Zd
    by_cases h0:k=0
    ·have hk1:kOk k l[k]=false:=by rw[kOk,hg];simp[h0]
     rw[hk1]at Hall;subst h0;rcases YeU (l[0]'hlt).toNat 65 with h | h
     ·go_wp2;go_ret;exact⟨by rw[Y2G,Hall.out];simp,rfl⟩
     ·have h':90< (l[0]'hlt).toNat:=Z7;have hb:decide (((l[0]'hlt).toNat:Int)≤90)=false:=Yeh Z7;have hb2: ¬((l[0]'hlt).toNat:Int)≤90:=Z7;go_wp2;go_ret;exact⟨by rw[Y2G,Hall.out];simp,rfl⟩
    ·have hkI:((k:Int) == 0)=false:=Z1r;have hkO:kOk k l[k]=Y2N l[k]:=by rw[kOk,hg];exact Zd
     rw[hkO]at Hall;have hgI:(65:Int)≤l[k].toNat→ ¬(l[k].toNat:Int)≤90:=Z7;by_cases hlow:97≤l[k].toNat∧l[k].toNat≤122
     ·have hm:Y2N l[k]=true:=by rw[Md.out];exact Zd
      rw[hm]at Hall;obtain⟨u1,u2⟩:=hlow;have v1:(65:Int)≤l[k].toNat:=Z7;have v2: ¬(l[k].toNat:Int)≤90:=Z7;go_wp2;exact Z23
     ·have hm:Y2N l[k]=((decide (48≤l[k].toNat) && decide (l[k].toNat≤57)) || decide (0≤ib)):=by
       rw[Md.out];have:(decide (97≤l[k].toNat) && decide (l[k].toNat≤122))=false:=Zd;rw[this];rfl
      clear Md Gd hgI;by_cases hdig:48≤l[k].toNat∧l[k].toNat≤57
      ·have hm2:Y2N l[k]=true:=by rw[hm];exact Zd
       rw[hm2]at Hall;clear hm hm2;refine Z1l ?_;intro x1 x2 x3 x4;have x5:(48:Int)≤l[k].toNat:=Z7;have x6:(l[k].toNat:Int)≤57:=Z7;clear hlow h65 hdig;go_wp2;exact Z23
      ·have hm2:Y2N l[k]=decide (0≤ib):=by
        rw[hm];have:(decide (48≤l[k].toNat) && decide (l[k].toNat≤57))=false:=Zd;rw[this];rfl
       clear hm;by_cases hib:0≤ib
       ·rw[hm2,Yel hib]at Hall;clear hm2;rcases(show l[k].toNat<48∨(57<l[k].toNat∧l[k].toNat<65)∨(90<l[k].toNat∧l[k].toNat<97)∨122<l[k].toNat from Z7)with h | h | h | h
        ·refine Z1l ?_;intro x1 x2 x3 x4;have x5: ¬(48:Int)≤l[k].toNat:=Z7;have x6:(l[k].toNat:Int)≤57:=Z7;exact ZU
        ·refine Z1l ?_;intro x1 x2 x3 x4;exact Z2T
        ·refine Z4d ?_;intro x1 x2;have x3: ¬(97:Int)≤l[k].toNat:=Z7;have x4:(l[k].toNat:Int)≤122:=Z7;exact Z2T
        ·refine Z4d ?_;intro x1 x2;have x3:(97:Int)≤l[k].toNat:=Z7;have x4: ¬(l[k].toNat:Int)≤122:=Z7;exact Z2T
       ·have hib':ib<0:=Z7;rw[hm2,Yeh hib]at Hall;clear hm2;have hib2:decide (0≤ib)=false:=Yeh hib;rcases(show l[k].toNat<48∨(57<l[k].toNat∧l[k].toNat<65)∨(90<l[k].toNat∧l[k].toNat<97)∨122<l[k].toNat from Z7)with h | h | h | h
        ·refine Z1l ?_;intro x1 x2 x3 x4;have x5: ¬(48:Int)≤l[k].toNat:=Z7;have x6:(l[k].toNat:Int)≤57:=Z7;exact Z3s
        ·refine Z1l ?_;intro x1 x2 x3 x4;exact Z1e
        ·refine Z4d ?_;intro x1 x2;have x3: ¬(97:Int)≤l[k].toNat:=Z7;have x4:(l[k].toNat:Int)≤122:=Z7;exact Z1e
        ·refine Z4d ?_;intro x1 x2;have x3:(97:Int)≤l[k].toNat:=Z7;have x4: ¬(l[k].toNat:Int)≤122:=Z7;exact Z1e
  ·obtain rfl:k=l.length:=Z7;rw[YeX]at hall;have Hall:=hid hall;clear hall;by_cases hn:l= []
   ·subst hn;go_wp2;go_ret;exact⟨rfl,rfl⟩
   ·have hp:=Ygi.2 hn;have he:l.isEmpty=false:=by simpa using hn
    have hk:Y2G l=decide (l.length≤63):=by
     rw[Y2G,Hall.out,Y3b];exact Zd
    have Hk:=hid hk;clear hk;go_wp2;go_ret;refine⟨?_,rfl⟩;rw[Hk.out];simp
    try omega
end
section
open Go.Proofs.Tryz
open Go Go.RowKit
def YaM(w:World)(g:Nat):Prop:= ∃te pe,w.cell? ⟨g,0,none⟩=some (.iface te pe)
def EV(w:World):Prop:=YaM w 5∧YaM w 6
theorem EV.below{w w':World}(h:EV w)(hb:Below w.heap.size w w'):EV w':=by
 obtain⟨⟨t1,p1,h1⟩,⟨t2,p2,h2⟩⟩:=h;exact⟨⟨t1,p1,(hb.cell (p:=⟨5,0,none⟩) (YfX w _ h1)).trans h1⟩,⟨t2,p2,(hb.cell (p:=⟨6,0,none⟩) (YfX w _ h2)).trans h2⟩⟩
theorem Y49{L:List (String×DataW Unit)}{name nm:String}{d:DataW Unit}{g:Nat}{ti:TypeId}{ms:Array (String×TypeId)}(hfl:(L.filter fun x=>x.2.handleName?.isNone).filter (fun x=>x.1 == name)= [(name,.iface nm d)])
 (hg:prog.globalNamed name=some g) (hty:(prog.globals[g]?).map (·.type)=some ti) (hi:prog.underlying ti=some (.interface ms)) {W:World} (h:laidMetH prog L W):YaM W g:=by
 have h2:=((laidMetH_iff.1 h).1).filter fun x=>x.1 == name
 rw[hfl]at h2;obtain⟨ps,⟨g',t',cs,fuel,p,q,hg',ht',hvar,hd,_,_⟩,_⟩:=h2;obtain rfl:=Yey (hg.symm.trans hg');obtain rfl:=Yey (hty.symm.trans ht');obtain⟨_,u,v,hc,_,_⟩:=iface_of_trod hi hd;have:=World.var?_cell hg hvar 0;refine⟨u,v,?_⟩;rw[this];rw[←Array.getElem?_toList,hc];rfl
end
section
open Go.Proofs.Tryz
open Go.RowKit
open Go.ChangeShapes Go.WideShapes
def strB:Value→List UInt8 | .string s=>s.data.toList | _=> []
open Go.ChangeShapes Go.WideShapes in
theorem Y8z{H:Type}{enc:TypeId×Value→H}{W:World}{fuel:Nat}{a0:Option Addr}{len cap:Nat}{x:DataW H×List MemPlace}
 (h:DataW.trod enc prog W 0 (fun _=>true) true fuel 61 (Value.slice a0 len cap).cells.toList=some x): ∃n I,Y7a W (.slice a0 len cap) n I:=by
 rcases Go.Deep.open_slice_pairs underlying61 underlying169 (by kernel_rfl) rfl rfl (by kernel_rfl) (by kernel_rfl) h with ⟨hc,_⟩ | ⟨a,l,c,m,n,V0,V1,D0,D1,P0,P1,hc,_,hl,hm,hmm,_,hi⟩
 ·simp[Value.cells]at hc;obtain⟨rfl,rfl,rfl⟩:=hc;exact⟨0,fun _=>(0,[]),by omega,.inl ⟨rfl,rfl⟩,fun a m cap e=>by cases e⟩
 ·simp[Value.cells]at hc;obtain⟨rfl,rfl,rfl⟩:=hc;simp only[Yfw]at hmm;refine⟨len,fun i=>(intOf (V0 i),strB (V1 i)),Yeu hl hm,.inr ⟨a,cap,rfl⟩,fun a' m' c' e k hk=> ?_⟩
  cases e
  obtain⟨g0,g1,t0,t1⟩:=hi k Z7;obtain⟨q,e0,_,wq⟩:=Ygo underlying3 t0;obtain⟨s,e1,_,ws⟩:=YfM underlying9 t1;simp only[Yfm,Ygm]at e0 e1;have b:=bounds_i64 wq;rw[e0]at g0;rw[e1]at g1;simp only[e0,e1,intOf,strB];exact⟨g0,by rw[g1,Y4b],b.1,b.2,by simpa using ws⟩
end
end Go.Proofs.YtfadikchijkcfaaGreatDoor
