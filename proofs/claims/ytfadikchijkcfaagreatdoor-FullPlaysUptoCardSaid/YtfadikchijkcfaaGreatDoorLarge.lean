/- A head that comes in, opened. -/
import Derived.Test.YtfadikchijkcfaaGreatDoorParsePure
import Derived.Test.YtfadikchijkcfaaGreatDoorCardBase
import Derived.Test.YtfadikchijkcfaaGreatDoorHeadRight
import Derived.Lib.SmallJoins
import Derived.ChangeSlices
import Derived.Test.YtfadikchijkcfaaGreatDoorAhsIn
import Derived.Test.YtfadikchijkcfaaGreatDoorSame
import Derived.Test.YtfadikchijkcfaaGreatDoorConf
import Derived.Test.YtfadikchijkcfaaGreatDoorAhs
set_option linter.unusedVariables false
set_option linter.unusedSectionVars false
set_option linter.unusedSimpArgs false
set_option maxRecDepth 100000
set_option maxHeartbeats 8000000
namespace Go.Proofs.YtfadikchijkcfaaGreatDoor
section
open Go Go.RowKit Go.ChangeShapes Go.WideShapes Go.Joins
theorem Y9N{W:World}{a:Addr}{len cap:Nat}{zs:List Int}(hl:len≤zs.length)(hc: ∀i,i<zs.length→W.cell? (a.add i)=some (.int .u64 (zs.getD i 0)))(hb: ∀n∈zs,0≤n∧n≤18446744073709551615):
 ∃vs:List Nat,vs.length=len∧(∀x∈vs,x≤18446744073709551615)∧Sl W (.slice (some a) vs.length cap) 1 vs.length (Yb vs):=by
 refine⟨(zs.take len).map Int.toNat,by simp;omega,?_,?_⟩
 ·intro x hx;obtain⟨n,hn,rfl⟩:=Yg4.1 hx;have:=hb n (List.mem_of_mem_take hn);exact Z7
 have hln:((zs.take len).map Int.toNat).length=len:=Zd;rw[hln];refine⟨some a,cap,rfl,by simp[Yb];omega,?_⟩;by_cases h0:len=0
 ·exact Z44
 ·right;obtain⟨ab,ao,asp⟩:=a;have hsp:asp=none:=by simpa[Addr.add]using Ygr (hc 0 Z7)
  subst hsp;refine⟨ab,ao,rfl,fun j u hu=> ?_⟩
  have hj:j<len:=by
   have:=(Yek.1 hu).1;simp[Yb]at this;exact Z7
  have hz:=hc j Z7;rw[show(⟨ab,ao,none⟩:Addr).add j=⟨ab,ao+j,none⟩ by unfold Addr.add;split<;>simp<;>omega]at hz;rw[hz];have hjz:j<zs.length:=Z7;have hbz:=hb zs[j] (YfD hjz);rw[Yb,YeR,YeR,Yfg,Yei hj,Yec hjz]at hu;simp only[Option.map_some,YeO]at hu;rw[←hu,List.getD,Yec hjz];simp only[Yf2]
  rw[Ygh hbz.1]
end
section
open Go.Proofs.Tryz
open Go Go.RowKit Go.ChangeShapes Go.WideShapes Go.Joins
theorem Y6J{H:Type}{enc:TypeId×Value→H}{W:World}{fuel:Nat}{c0 c1 c2 c3:Value}{x:DataW H×List MemPlace}
 (h:DataW.trod enc prog W 0 (fun _=>true) true fuel 60 [c0,c1,c2,c3]=some x):
 ∃op now flags sa sc vs,c0= .int .i64 op∧c1= .bool now∧c2= .int .i64 flags∧c3= .slice sa (List.length vs) sc∧(-9223372036854775808≤op∧op≤9223372036854775807)∧(-9223372036854775808≤flags∧flags≤9223372036854775807)∧
  vs.length≤9223372036854775807∧(∀x∈vs,x≤18446744073709551615)∧Sl W (.slice sa vs.length sc) 1 vs.length (Yb vs):=by
 obtain⟨y0,y1,y2,y3,n,_,_,h0,h1,h2,h3⟩:=trod_struct4 underlying60 h;have ci:prog.cellsOf 3=1:=by kernel_rfl
 have cb:prog.cellsOf 4=1:=by kernel_rfl
 have cv:prog.cellsOf 58=1:=by kernel_rfl
 simp only[ci,cb,cv,List.drop_zero,List.drop_succ_cons,YfV,List.take_zero]at h0 h1 h2 h3;obtain⟨op,e0,_,w0⟩:=Ygo underlying3 h0;obtain⟨now,e1,_⟩:=DataW.trod_bool underlying4 h1;obtain⟨flags,e2,_,w2⟩:=Ygo underlying3 h2;simp only[Yfm,Ygm]at e0 e1 e2;subst e0 e1 e2;have b0:=bounds_i64 w0;have b2:=bounds_i64 w2;have cu:prog.cellsOf 106=1:=by kernel_rfl
 rcases open_ints underlying58 underlying106 cu h3 with ⟨hc,_⟩ | ⟨a,len,cap,zs,hc,_,hl,hm,hz,_,hcell,hwf⟩
 ·simp only[Yfm,Ygm]at hc;subst hc;exact⟨op,now,flags,none,0,[],rfl,rfl,rfl,rfl,b0,b2,by simp,by simp,Y2g W 1⟩
 ·simp only[Yfm,Ygm]at hc;subst hc;simp only[Yfw]at hz
  obtain⟨vs,hvl,hvb,hsl⟩:=Y9N (cap:=cap) (len:=len) (by omega) hcell (fun n hn=>by
   have:=hwf n hn;have h2:IntKind.u64.min≤n∧n≤IntKind.u64.max:=by simpa[Lit.wf]using this
   have e1:IntKind.u64.min=0:=by decide
   have e2:IntKind.u64.max=18446744073709551615:=by decide
   omega)
  unfold maxLen at hm;subst hvl;exact⟨op,now,flags,some a,cap,vs,rfl,rfl,rfl,rfl,b0,b2,by omega,hvb,hsl⟩
end
section
open Go.Proofs.Tryz
open Go Go.RowKit Go.ChangeShapes Go.WideShapes Go.Joins
structure PD where
 op:Int
 now:Bool
 flags:Int
 va:Option Addr
 vc:Nat
 vs:List Nat
 av:Value
 n:Nat
 I:Nat→Int×List UInt8
 d:List UInt8
def PdIn(w:World)(x:PD):Prop:=Y79 w x.op x.flags (.slice x.va x.vs.length x.vc) x.vs x.av x.n x.I x.d
theorem PdIn.below{w w':World}{x:PD}(h:PdIn w x)(hb:Below w.heap.size w w'):PdIn w' x:=Y79.below h hb
def Y8E(w:World)(b o:Nat)(x:PD):Prop:=
 w.cell? ⟨b,o,none⟩=some (.int .i64 x.op)∧w.cell? ⟨b,o+1,none⟩=some (.bool x.now)∧w.cell? ⟨b,o+2,none⟩=some (.int .i64 x.flags)∧
  w.cell? ⟨b,o+3,none⟩=some (.slice x.va x.vs.length x.vc)∧w.cell? ⟨b,o+4,none⟩=some x.av∧w.cell? ⟨b,o+5,none⟩=some (.string (bs x.d))
def PdSl(w:World)(v:Value)(l:List PD):Prop:= ∃A c,v= .slice A l.length c∧l.length≤9223372036854775807∧(l.length=0∨ ∃b o,A=some ⟨b,o,none⟩∧ ∀k x,l[k]?=some x→Y8E w b (o+k * 6) x∧PdIn w x)
def szD(x:PD):Nat:=1+x.d.length
theorem Ydd{H:Type}{enc:TypeId×Value→H}{W:World}{fuel:Nat}{cs:List Value}{x:DataW H×List MemPlace}
 (h:DataW.trod enc prog W 0 (fun _=>true) true fuel 31 cs=some x): ∃ (a:Option Addr) (l:List PD) (c:Nat),cs= [.slice a l.length c]∧PdSl W (.slice a l.length c) l∧Y1U szD l≤Rows.uptoBulk x.1:=by
 have c6:prog.cellsOf 63=6:=by kernel_rfl
 have c4:prog.cellsOf 60=4:=by kernel_rfl
 have ca:prog.cellsOf 61=1:=by kernel_rfl
 have cs1:prog.cellsOf 9=1:=by kernel_rfl
 rcases Go.Deep.open_slice underlying31 h with ⟨hc,_⟩ | ⟨a,len,cap,m,n,D,Pl,hc,_,hl,hm,hmm,hx,hi⟩
 ·subst hc;exact⟨none,[],0,rfl,⟨none,0,rfl,by simp,.inl rfl⟩,by simp[Y1U]⟩
 ·subst hc;simp only[Yfw]at hmm
  have hi': ∀k,k<len→ ∃y:PD,(W.cell? (a.add (k * 6))=some (.int .i64 y.op)∧W.cell? (a.add (k * 6+1))=some (.bool y.now)∧W.cell? (a.add (k * 6+2))=some (.int .i64 y.flags)∧
   W.cell? (a.add (k * 6+3))=some (.slice y.va y.vs.length y.vc)∧W.cell? (a.add (k * 6+4))=some y.av∧W.cell? (a.add (k * 6+5))=some (.string (bs y.d)))∧PdIn W y∧szD y≤Rows.uptoBulk (D k):=by
   intro k hk;obtain⟨cs',h1,h2⟩:=hi k (by omega);rw[c6]at h1;obtain⟨_,hlen,hcell⟩:=World.cells?_some h1
   match cs',hlen with
   | [x0,x1,x2,x3,x4,x5],_ =>
    obtain⟨y0,y1,y2,n',hxx,_,h0,h1',h2'⟩:=Go.Deep.trod_struct3 underlying63 h2;simp only[c4,ca,cs1,List.drop_zero,List.drop_succ_cons,YfV,List.take_zero]at h0 h1' h2';obtain⟨op,now,flags,sa,sc,vs,rfl,rfl,rfl,rfl,ob,fb,nb,vb,hs⟩:=Y6J h0;obtain⟨aa,al,ac,e⟩:=slice_form underlying61 h1';simp only[Yfm,Ygm]at e;subst e;obtain⟨q,I,hA⟩:=Y8z (a0:=aa) (len:=al) (cap:=ac) (by simpa[Value.cells]using h1')
    obtain⟨s,e,f2,hss⟩:=YfM underlying9 h2';have e':=e;simp only[Yfm,Ygm]at e';subst e';have e0:=hcell 0 (by omega);have e1:=hcell 1 (by omega);have e2:=hcell 2 (by omega);have e3:=hcell 3 (by omega);have e4:=hcell 4 (by omega);have e5:=hcell 5 (by omega);rw[Go.Deep.add_add]at e0 e1 e2 e3 e4 e5;simp at e0 e1 e2 e3 e4 e5;unfold maxLen at hss;refine⟨⟨op,now,flags,sa,sc,vs,_,q,I,s.data.toList⟩,⟨e0,e1,e2,e3,e4,by rw[Y4b];exact e5⟩,⟨ob.1,ob.2,fb.1,fb.2,nb,vb,hs,hA,by simpa using hss⟩,?_⟩
    have f2':y2.1= .lit (.string s.data.toList):=Yeg Prod.fst f2;have hd:D k= .agg [y0.1,y1.1,y2.1]:=by simpa using Yeg Prod.fst hxx
    rw[hd,f2'];simp only[Rows.uptoBulk,Rows.uptoBulkAll,szD];omega
  let X:Nat→PD:=fun k=>if hk:k<len then(hi' k hk).choose else⟨0,false,0,none,0,[],.slice none 0 0,0,fun _=>(0,[]),[]⟩
  have hX:=fun k (hk:k<len)=>show(W.cell? (a.add (k * 6))=some (.int .i64 (X k).op)∧W.cell? (a.add (k * 6+1))=some (.bool (X k).now)∧W.cell? (a.add (k * 6+2))=some (.int .i64 (X k).flags)∧
   W.cell? (a.add (k * 6+3))=some (.slice (X k).va (X k).vs.length (X k).vc)∧W.cell? (a.add (k * 6+4))=some (X k).av∧W.cell? (a.add (k * 6+5))=some (.string (bs (X k).d)))∧PdIn W (X k)∧szD (X k)≤Rows.uptoBulk (D k)from by
   simp only[X,dif_pos hk];exact(hi' k hk).choose_spec
  have hsp:len=0∨a.spot=none:=by
   by_cases h0:len=0
   ·exact Z44
   ·right;have:=(hX 0 Z7).1.1;simpa[Addr.add]using Ygr this
  have hlen:((List.range len).map X).length=len:=Z2t;refine⟨some a,(List.range len).map X,cap,by rw[hlen],⟨some a,cap,rfl,by rw[hlen];unfold maxLen at hm;omega,?_⟩,?_⟩
  ·rcases hsp with h0 | hsp
   ·left;simp[h0]
   ·right;obtain⟨ab,ao,asp⟩:=a;have hsp:asp=none:=hsp;subst hsp;refine⟨ab,ao,rfl,fun k x hx=> ?_⟩
    have hk:k<len:=by
     have:=(Yek.1 hx).1;exact Z2Y
    have hxx:X k=x:=by
     rw[YeR,Ygj hk]at hx;simpa using hx
    obtain⟨q,q6,_⟩:=hX k hk;rw[hxx]at q q6;have ad: ∀j,(⟨ab,ao,none⟩:Addr).add j=⟨ab,ao+j,none⟩:=fun j=>by unfold Addr.add;split<;>simp<;>omega
    rw[ad,ad,ad,ad,ad,ad]at q;exact⟨⟨q.1,by rw[YeT];exact q.2.1,by rw[YeT];exact q.2.2.1,by rw[YeT];exact q.2.2.2.1,by rw[YeT];exact q.2.2.2.2.1,by rw[YeT];exact q.2.2.2.2.2⟩,q6⟩
  ·have h1:=Y8v szD len D X (fun i hi=>(hX i hi).2.2);exact Z4k
end
section
open Go.Proofs.Tryz
open Go Go.RowKit
def Y9G(w:World)(e:Ending)(w':World):Prop:=(∃b:Bool,e= .returned (.bool b))∧Below w.heap.size w w'
theorem Ydr(op:Int)(now:Bool)(flags:Int)(v:Value)(vs:List Nat)(av:Value)(n:Nat)(I:Nat→Int×List UInt8)(d:List UInt8)(w:World)(hp:Y79 w op flags v vs av n I d):
 Calls prog 33 #[Y1a op now flags v av d] w fun e w'=>Y9G w e w':=by
 have c1:=fun w1 (hb:Below w.heap.size w w1)=>hid (wide_any av n I w1 (hp.ahs.below hb))
 unfold Ybn at c1;obtain⟨aa,ac,rfl⟩:=Y4o hp.ahs;obtain⟨sa,sc,rfl,_⟩:=id hp.vals;clear hp;refine Z1p ?_;intro b1 B1;go_enter func33,ntmps33;unfold Y1a;go_wp2_with fail;refine(c1 _ b1).out.mono ?_;rintro e w2 ⟨⟨b,rfl⟩,hb⟩;have B2:=B1.below hb;have b2:=b1.trans (hb.mono b1.size);have t3:w2.cell? ⟨w.heap.size,3,none⟩=some (.slice sa vs.length sc):=(B2.cell 3).trans rfl;have t5:w2.cell? ⟨w.heap.size,5,none⟩=some (.string (bs d)):=(B2.cell 5).trans rfl
 obtain⟨q1,h1⟩: ∃q,decide ((50:Int) < (vs.length:Int))=q:=⟨_,rfl⟩;obtain⟨q2,h2⟩: ∃q,decide ((2500:Int) < (d.length:Int))=q:=⟨_,rfl⟩;obtain⟨q3,h3⟩: ∃q,decide ((d.length:Int)≤100000)=q:=⟨_,rfl⟩;obtain⟨q4,h4⟩: ∃q,decide ((100009:Int) < (d.length:Int))=q:=⟨_,rfl⟩
 cases b<;>cases q1<;>cases q2<;>cases q3<;>cases q4
 all_goals
  go_wp2;go_ret;exact⟨⟨_,rfl⟩,b2⟩
def pd0:PD:=⟨0,false,0,none,0,[],.slice none 0 0,0,fun _=>(0,[]),[]⟩
def Ybp(l:List PD)(w:World)(e:Ending)(w':World):Prop:=(∃b:Bool,e= .returned (.bool b)∧(b=true→l.length≤100))∧Below w.heap.size w w'
def RSome(l:List PD)(w:World)(s i:Value)(wr:World):Prop:=
 ∃k m:Nat,k≤l.length∧60 * k≤m∧m≤60 * k+Y1U szD (l.take k)∧s= .int .i64 (m:Nat)∧i= .int .i64 (k:Nat)∧Below w.heap.size w wr
theorem some_any(v:Value)(l:List PD)(w:World)(h:PdSl w v l)(hb:Y1U szD l≤1048576):
 Calls prog 7 #[v] w fun e w'=>Ybp l w e w':=by
 obtain⟨A,sc,rfl,hn,hc⟩:=h;have hlen:=Y2O szD l (fun x=>by unfold szD;exact Z7);have HC:=hid hc;clear hc;go_enter func7,ntmps7;go_wp2;go_loopw [3,8] (fun s i wr=>RSome l w s i wr) (fun _ i _=>l.length - (intOf i).toNat)
 case atStart=>exact⟨0,0,by omega,by omega,by omega,rfl,rfl,Yea _ _⟩
 case round =>
  obtain⟨k,m,hk,hm1,hm2,rfl,rfl,hb1⟩:=hrel;have hB:=hb1.size;by_cases hlt:k<l.length
  ·obtain⟨x,hx⟩: ∃x,l[k]?=some x:=⟨l[k]'hlt,Yec hlt⟩;have hst:=Y3v szD l k pd0 hlt;rw[show l.getD k pd0=x by rw[List.getD,hx];rfl]at hst;have htk:=Y30 szD l (k+1);obtain⟨b,o,rfl,hcell⟩:=HC.out.resolve_left Z7;obtain⟨⟨c0,c1,c2,c3,c4,c5⟩,hI⟩:=hcell k x hx;have g0:=(hb1.cell (Yeb c0)).trans c0;have g1:=(hb1.cell (Yeb c1)).trans c1;have g2:=(hb1.cell (Yeb c2)).trans c2
   have g3:=(hb1.cell (Yeb c3)).trans c3;have g4:=(hb1.cell (Yeb c4)).trans c4;have g5:=(hb1.cell (Yeb c5)).trans c5;have hbl:=Yeb c0;clear hcell c0 c1 c2 c3 c4 c5 hx;obtain⟨op,now,flags,va,vc,vs,av,n,I,d⟩:=x;obtain⟨aa,ac,hav⟩:=Y4o hI.ahs;simp only at g0 g1 g2 g3 g4 g5 hI hav;subst hav;have hsz:szD ⟨op,now,flags,va,vc,vs,.slice aa n ac,n,I,d⟩=1+d.length:=rfl
   rw[hsz]at hst;obtain⟨W6,hW6⟩: ∃W6,wr.alloc (.cells #[.int .i64 op,.bool now,.int .i64 flags,.slice va vs.length vc,.slice aa n ac,.string (bs d)] 63)=W6:=⟨_,rfl⟩;have P6:Blk W6 wr.heap.size 63 #[.int .i64 op,.bool now,.int .i64 flags,.slice va vs.length vc,.slice aa n ac,.string (bs d)]:=by rw[←hW6];exact Blk.new _ _ _
   have hA6:Below wr.heap.size wr W6:=Z2O;have b6:=hb1.trans (hA6.mono hB);have p0:=(P6.cell 0).trans (rfl:_=some (Value.int .i64 op));have p1:=(P6.cell 1).trans (rfl:_=some (Value.bool now));have p2:=(P6.cell 2).trans (rfl:_=some (Value.int .i64 flags));have p3:=(P6.cell 3).trans (rfl:_=some (Value.slice va vs.length vc));have p4:=(P6.cell 4).trans (rfl:_=some (Value.slice aa n ac));have p5:=(P6.cell 5).trans (rfl:_=some (Value.string (bs d)))
   have cL:=hid (Ydr op now flags _ vs _ n I d W6 (Y79.below hI b6));unfold Y9G Y1a at cL;have HST:=hid hst;have hm3:m+60+d.length≤67108864:=Z7;clear hsz hst P6 hI;go_wp2_with fail;refine cL.out.mono ?_;rintro e w7 ⟨⟨bl,rfl⟩,hb7⟩;have b7:=b6.trans (hb7.mono b6.size)
   cases bl with
   | true =>
    go_wp2;go_ret;exact⟨⟨false,rfl,fun e=>by cases e⟩,b7⟩
   | false =>
    have hst:=HST.out;go_wp2;exact⟨⟨k+1,m+(60+d.length),by omega,by omega,by omega,by go_num,by go_num,b7⟩,by simp[intOf];omega⟩
  ·obtain rfl:k=l.length:=Z7;have hlt2: ¬((l.length:Int) < (l.length:Int)):=Z7;by_cases h6:(m:Int)≤6000
   ·have d6:decide ((m:Int)≤6000)=true:=Yel h6;have hL:l.length≤100:=Z7;clear h6;go_wp2;go_ret;exact⟨⟨true,rfl,fun _=>hL⟩,hb1⟩
   ·have d6:decide ((m:Int)≤6000)=false:=Yeh h6;clear h6;go_wp2;go_ret;exact⟨⟨false,rfl,fun e=>by cases e⟩,hb1⟩
end
end Go.Proofs.YtfadikchijkcfaaGreatDoor
