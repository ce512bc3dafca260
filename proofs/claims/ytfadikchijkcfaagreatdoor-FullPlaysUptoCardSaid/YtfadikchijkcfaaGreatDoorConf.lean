/- What a target is told, as it comes in, opened. -/
import Derived.Test.YtfadikchijkcfaaGreatDoorParsePure
import Derived.Test.YtfadikchijkcfaaGreatDoorTCrowd
import Derived.Test.YtfadikchijkcfaaGreatDoorCardBase
import Derived.Lib.SmallJoins
import Derived.ChangeSlices
import Derived.Deep.Strs
set_option linter.unusedVariables false
set_option linter.unusedSectionVars false
set_option linter.unusedSimpArgs false
set_option maxRecDepth 100000
namespace Go.Proofs.YtfadikchijkcfaaGreatDoor
open Go.Proofs.Tryz
open Go Go.RowKit Go.ChangeShapes Go.WideShapes Go.Joins
theorem Y8u{H:Type}{d:DataW H}{l:List (DataW H)}(h:d∈l):Rows.uptoBulk d≤Rows.uptoBulkAll l:=by
 induction l with
 | nil=>cases h
 | cons x r ih =>
  simp only[Rows.uptoBulkAll];rcases Yf0.1 h with e | e
  ·subst e;omega
  ·have:=ih e;omega
theorem Y8v{α:Type}{H:Type}(f:α→Nat)(n:Nat)(D:Nat→DataW H)(X:Nat→α)(h: ∀i,i<n→f (X i)≤Rows.uptoBulk (D i)):Y1U f ((List.range n).map X)≤Rows.uptoBulkAll ((List.range n).map D):=by
 have key: ∀ (l:List Nat),(∀i∈l,i<n)→Y1U f (l.map X)≤Rows.uptoBulkAll (l.map D):=by
  intro l
  induction l with
  | nil=>intro _;simp[Y1U,Rows.uptoBulkAll]
  | cons i l ih =>
   intro hl;have h1:=h i (hl i Z2t);have h2:=ih fun j hj=>hl j (by simp[hj])
   simp only[YeY,Y1U,List.sum_cons,Rows.uptoBulkAll]at h2 ⊢;omega
 exact key _ fun i hi=>Yf6.1 hi
theorem Z4k{P:Prop}(h:P:=by
 rw[hx]
 simp only[Rows.uptoBulk]
 exact Z7):P:=h
theorem Y8S{H:Type}{enc:TypeId×Value→H}{W:World}{fuel:Nat}{cs:List Value}{x:DataW H×List MemPlace}
 (h:DataW.trod enc prog W 0 (fun _=>true) true fuel 22 cs=some x): ∃ (a:Option Addr) (l:List (List UInt8)) (c:Nat),cs= [.slice a l.length c]∧TSl W (.slice a l.length c) l∧Y1U szT l≤Rows.uptoBulk x.1∧l.length≤c:=by
 have cs1:prog.cellsOf 9=1:=by kernel_rfl
 rcases Go.Deep.open_strs underlying22 underlying9 cs1 h with ⟨hc,_⟩ | ⟨a,len,cap,m,Sx,hc,_,hl,hm,hmm,hx,hi⟩
 ·subst hc;exact⟨none,[],0,rfl,Y2g W 1,by simp[Y1U],by simp⟩
 ·subst hc;simp only[Yfw]at hmm;have hlen:((List.range len).map fun k=>(Sx k).data.toList).length=len:=Z2t;refine⟨some a,(List.range len).map fun k=>(Sx k).data.toList,cap,by rw[hlen],?_,?_,by rw[hlen];exact hl⟩
  ·unfold TSl;rw[hlen];refine⟨some a,cap,rfl,by simp[Y3k],?_⟩;by_cases h0:len=0
   ·exact Z44
   ·right;obtain⟨ab,ao,asp⟩:=a;have hsp:asp=none:=by simpa[Addr.add]using Ygr (hi 0 Z7).1
    subst hsp;refine⟨ab,ao,rfl,fun j u hu=> ?_⟩
    have hj:j<len:=by
     have:=(Yek.1 hu).1;simpa[Y3k]using this
    have g:=(hi j Z7).1;rw[show(⟨ab,ao,none⟩:Addr).add j=⟨ab,ao+j,none⟩ by unfold Addr.add;split<;>simp<;>omega]at g;rw[g];rw[Y3k,YeR,YeR,Ygj hj]at hu;simp only[Option.map_some,YeO]at hu;rw[←hu,Y4b]
  ·have h1:=Y8v szT len (fun i=>(.lit (.string (Sx i).data.toList):DataW H)) (fun i=>(Sx i).data.toList) (fun i _=>by simp only[szT,Rows.uptoBulk];exact Z7);exact Z4k
def Y78:Value→Int | .int _ i=>i | _=>0
theorem Y94{H:Type}{enc:TypeId×Value→H}{W:World}{fuel:Nat}{cs:List Value}{x:DataW H×List MemPlace}
 (h:DataW.trod enc prog W 0 (fun _=>true) true fuel 23 cs=some x): ∃ (a:Option Addr) (l:GL) (c:Nat),cs= [.slice a l.length c]∧GSl W (.slice a l.length c) l∧Y1U szG l≤Rows.uptoBulk x.1∧
  ∀k,-9223372036854775808≤(l.getD k ([],0)).2∧(l.getD k ([],0)).2≤9223372036854775807:=by
 have cs1:prog.cellsOf 9=1:=by kernel_rfl
 have ci1:prog.cellsOf 3=1:=by kernel_rfl
 rcases Go.Deep.open_slice_pairs underlying23 underlying111 (by kernel_rfl) rfl rfl cs1 ci1 h with ⟨hc,_⟩ | ⟨a,len,cap,m,n,V0,V1,D0,D1,P0,P1,hc,_,hl,hm,hmm,hx,hi⟩
 ·subst hc;exact⟨none,[],0,rfl,Y2g W 2,by simp[Y1U],by intro k;simp⟩
 ·subst hc;simp only[Yfw]at hmm
  have hi': ∀k,k<len→W.cell? (a.add (k * 2))=some (poF (Y3q (V0 k),Y78 (V1 k)))∧W.cell? (a.add (k * 2+1))=some (poG (Y3q (V0 k),Y78 (V1 k)))∧szG (Y3q (V0 k),Y78 (V1 k))≤Rows.uptoBulk (.agg [D0 k,D1 k])∧(-9223372036854775808≤Y78 (V1 k)∧Y78 (V1 k)≤9223372036854775807):=by
   intro k hk;obtain⟨g0,g1,d0,d1⟩:=hi k Z7;obtain⟨s,e0,f0,_⟩:=YfM underlying9 d0;obtain⟨z,e1,f1,w1⟩:=Ygo underlying3 d1;simp only[Yfm,Ygm]at e0 e1;rw[e0]at g0;rw[e1]at g1;have f0':D0 k= .lit (.string s.data.toList):=Yeg Prod.fst f0;simp only[e0,e1,Y3q,Y78,poF,poG,szG,Y4b];refine⟨g0,g1,?_,bounds_i64 w1⟩;rw[f0'];simp only[Rows.uptoBulk,Rows.uptoBulkAll]
   exact Z7
  have hlen:((List.range len).map fun k=>(Y3q (V0 k),Y78 (V1 k))).length=len:=Z2t;refine⟨some a,(List.range len).map fun k=>(Y3q (V0 k),Y78 (V1 k)),cap,by rw[hlen],?_,?_,?_⟩
  ·have:=Y5G (F:=poF) (G:=poG) (cap:=cap) (fun k=>(Y3q (V0 k),Y78 (V1 k))) (fun k hk=>⟨(hi' k hk).1,(hi' k hk).2.1⟩);unfold GSl;rw[hlen]at this ⊢;exact this
  ·have h1:=Y8v szG len (fun i=>(.agg [D0 i,D1 i]:DataW H)) (fun k=>(Y3q (V0 k),Y78 (V1 k))) (fun i hi=>(hi' i hi).2.2.1);exact Z4k
  ·intro k;by_cases hk:k<len
   ·rw[List.getD,YeR,Ygj hk];exact(hi' k hk).2.2.2
   ·rw[List.getD,Yfq Zd];exact Z2t
theorem Y4E{H:Type}{enc:TypeId×Value→H}{W:World}{fuel:Nat}{T E:TypeId}{F:Array Field}{cs:List Value}{x:DataW H×List MemPlace}
 (hT:prog.underlying T=some (.slice E)) (hE:prog.underlying E=some (.struct F)) {f0 f1:Field} (hF:F= #[f0,f1]) (ce:prog.cellsOf E=2) (o0:f0.offset=0) (o1:f1.offset=1)
 (t0:f0.type=9) (t1:f1.type=9)
 (h:DataW.trod enc prog W 0 (fun _=>true) true fuel T cs=some x): ∃ (a:Option Addr) (l:PL) (c:Nat),cs= [.slice a l.length c]∧PSl W (.slice a l.length c) l∧Y1U szP l≤Rows.uptoBulk x.1∧l.length≤c:=by
 subst hF;have cs1:prog.cellsOf 9=1:=by kernel_rfl
 rcases Go.Deep.open_slice_pairs hT hE ce o0 o1 (by rw[t0];exact cs1) (by rw[t1];exact cs1) h with ⟨hc,_⟩ | ⟨a,len,cap,m,n,V0,V1,D0,D1,P0,P1,hc,_,hl,hm,hmm,hx,hi⟩
 ·subst hc;exact⟨none,[],0,rfl,Y37 W,by simp[Y1U],by simp⟩
 ·subst hc;simp only[Yfw]at hmm
  have hi': ∀k,k<len→W.cell? (a.add (k * 2))=some (.string (bs (Y3q (V0 k))))∧W.cell? (a.add (k * 2+1))=some (.string (bs (Y3q (V1 k))))∧szP (Y3q (V0 k),Y3q (V1 k))≤Rows.uptoBulk (.agg [D0 k,D1 k]):=by
   intro k hk;obtain⟨g0,g1,d0,d1⟩:=hi k Z7;rw[t0]at d0;rw[t1]at d1;obtain⟨s,e0,f0,_⟩:=YfM underlying9 d0;obtain⟨s',e1,f1,_⟩:=YfM underlying9 d1;simp only[Yfm,Ygm]at e0 e1;rw[e0]at g0;rw[e1]at g1;have f0':D0 k= .lit (.string s.data.toList):=Yeg Prod.fst f0;have f1':D1 k= .lit (.string s'.data.toList):=Yeg Prod.fst f1;simp only[e0,e1,Y3q,szP,Y4b]
   refine⟨g0,g1,?_⟩;rw[f0',f1'];simp only[Rows.uptoBulk,Rows.uptoBulkAll];exact Z7
  have hlen:((List.range len).map fun k=>(Y3q (V0 k),Y3q (V1 k))).length=len:=Z2t;refine⟨some a,(List.range len).map fun k=>(Y3q (V0 k),Y3q (V1 k)),cap,by rw[hlen],?_,?_,by rw[hlen];exact hl⟩
  ·have:=Y5G (F:=fun x:List UInt8×List UInt8=> .string (bs x.1)) (G:=fun x=> .string (bs x.2)) (cap:=cap) (fun k=>(Y3q (V0 k),Y3q (V1 k))) (fun k hk=>⟨(hi' k hk).1,(hi' k hk).2.1⟩);unfold PSl;rw[hlen]at this ⊢;exact this
  ·have h1:=Y8v szP len (fun i=>(.agg [D0 i,D1 i]:DataW H)) (fun k=>(Y3q (V0 k),Y3q (V1 k))) (fun i hi=>(hi' i hi).2.2);exact Z4k
theorem array7{α:Type}{cs:Array α}(h:cs.size=7): ∃c0 c1 c2 c3 c4 c5 c6,cs= #[c0,c1,c2,c3,c4,c5,c6]:=by
 obtain⟨l⟩:=cs
 match l,h with
 | [c0,c1,c2,c3,c4,c5,c6],_=>exact⟨c0,c1,c2,c3,c4,c5,c6,rfl⟩
theorem YdU{H:Type}{enc:TypeId×Value→H}{W:World}{r:Reach}{b0:Nat}{v:Value}{d:DataW H}{p:List MemPlace}
 (hv:Value.okWide prog W r b0 29 v) (h:DataW.Trod enc prog W 0 (fun _=>true) true 29 v d p) (hb:Rows.uptoBulk d≤1048576):
 ∃ta ga ua oa tc gc uc oc ts gs us sn ss lim own,v=Y2I (.slice ta (List.length ts) tc) (.slice ga (List.length gs) gc) (.slice ua (List.length us) uc) (.slice oa (List.length own) oc) sn ss lim∧
  YD W ts gs us sn ss lim own (.slice ta (List.length ts) tc) (.slice ga (List.length gs) gc) (.slice ua (List.length us) uc) (.slice oa (List.length own) oc):=by
 obtain⟨cs,rfl,hsz⟩:=okWide_struct underlying29 hv;have c7:prog.cellsOf 29=7:=by kernel_rfl
 have ct:prog.cellsOf 22=1:=by kernel_rfl
 have cg:prog.cellsOf 23=1:=by kernel_rfl
 have cu:prog.cellsOf 24=1:=by kernel_rfl
 have co:prog.cellsOf 27=1:=by kernel_rfl
 have cp:prog.cellsOf 26=2:=by kernel_rfl
 have ci:prog.cellsOf 3=1:=by kernel_rfl
 have cs1:prog.cellsOf 9=1:=by kernel_rfl
 obtain⟨c0,c1,c2,c3,c4,c5,c6,rfl⟩:=array7 (hsz.trans c7);obtain⟨fuel,hf⟩:=h;obtain⟨xs,n,_,hx,hl,hlen,hfs⟩:=DataW.trod_struct underlying29 hf
 match xs,hlen with
 | [y0,y1,y2,y3,y4,y5],_ =>
  have h0:=hfs 0 _ rfl;have h1:=hfs 1 _ rfl;have h2:=hfs 2 _ rfl;have h3:=hfs 3 _ rfl;have h4:=hfs 4 _ rfl;have h5:=hfs 5 _ rfl;simp[ct,cg,cu,co,cp,ci,Value.cells]at h0 h1 h2 h3 h4 h5;obtain⟨ta,ts,tc,e0,HT,BT,KT⟩:=Y8S h0;obtain⟨ga,gs,gc,e1,HG,BG,KG⟩:=Y94 h1;obtain⟨ua,us,uc,e2,HU,BU,KU⟩:=Y4E underlying24 underlying26 rfl (by kernel_rfl) rfl rfl rfl rfl h2;obtain⟨z0,z1,n2,hz,_,q0,q1⟩:=trod_struct2 underlying26 h3
  simp[cs1]at q0 q1;obtain⟨s0,e3,f3,_⟩:=YfM underlying9 q0;obtain⟨s1,e4,f4,_⟩:=YfM underlying9 q1;obtain⟨lim,e5,_,w5⟩:=Ygo underlying3 h4;obtain⟨oa,own,oc,e6,HO,BO,KO⟩:=Y4E underlying27 underlying78 rfl (by kernel_rfl) rfl rfl rfl rfl h5;simp only[Yfm,Ygm]at e0 e1 e2 e3 e4 e5 e6;subst e0 e1 e2 e3 e4 e5 e6;refine⟨ta,ga,ua,oa,tc,gc,uc,oc,ts,gs,us,s0.data.toList,s1.data.toList,lim,own,?_,⟨HT,HG,HU,HO,?_,?_,KG,?_,bounds_i64 w5,?_⟩⟩
  ·unfold Y2I;rw[Y4b,Y4b]
  ·have f3':z0.1= .lit (.string s0.data.toList):=Yeg Prod.fst f3;have f4':z1.1= .lit (.string s1.data.toList):=Yeg Prod.fst f4;have hd:d= .agg [y0.1,y1.1,y2.1,y3.1,y4.1,y5.1]:=by simpa using Yeg Prod.fst hx
   have hy3:y3.1= .agg [z0.1,z1.1]:=by rw[hz]
   rw[hd,hy3,f3',f4']at hb;simp only[Rows.uptoBulk,Rows.uptoBulkAll]at hb;omega
  ·intro a c e
   cases e
   exact KO
  ·intro a c e
   cases e
   exact KU
  ·intro a c e
   cases e
   exact KT
end Go.Proofs.YtfadikchijkcfaaGreatDoor
