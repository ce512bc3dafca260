/- What is wrong with what one has of keys: plain laws. -/
import Derived.Test.YtfadikchijkcfaaGreatDoorParsePure
import Derived.Test.YtfadikchijkcfaaGreatDoorPairFind
import Derived.Test.YtfadikchijkcfaaGreatDoorYes
import Derived.Test.YtfadikchijkcfaaGreatDoorUnpad
import Derived.Test.YtfadikchijkcfaaGreatDoorPUint
import Derived.Test.YtfadikchijkcfaaGreatDoorCells2
import Derived.Test.YtfadikchijkcfaaGreatDoorThick
set_option linter.unusedVariables false
set_option linter.unusedSectionVars false
set_option linter.unusedSimpArgs false
set_option maxRecDepth 100000
set_option maxHeartbeats 8000000
namespace Go.Proofs.YtfadikchijkcfaaGreatDoor
section
open Go Go.RowKit
def Ybj(l:PL)(k:Nat):Nat:=if(Y2q (l.take k) (l.getD k ([],[])).1).2=true then 9 else Y2i (l.getD k ([],[])).1 (l.getD k ([],[])).2
def Y1j(l:PL):Nat×Int:=if(Yc l).1≠0 then Yc l else match(List.range l.length).find? (fun k=>decide (Ybj l k≠0))with | some k=>(Ybj l k,(k:Int)) | none=>(0,-1)
def Y3f(l:PL)(k:Nat):Prop:= ∀j,j<k→Ybj l j=0
theorem Y3f.step{l:PL}{k:Nat}(h:Y3f l k)(hk:Ybj l k=0):Y3f l (k+1):=fun j hj=>by
 rcases YeU j k with h' | h'
 ·exact h j h'
 ·obtain rfl:j=k:=by omega
  exact hk
theorem Y4F(l:PL)(h:(Yc l).1≠0):Y1j l=Yc l:=Yei h
theorem Z4L{P:Prop}(h:P:=by
 rw[List.find?_range_eq_some]
 refine⟨by simpa using hb,by simpa using hk,fun j hj=> ?_⟩
 simp[ha j hj]):P:=h
theorem YaZ(l:PL)(k:Nat)(h0:(Yc l).1=0)(hk:k<l.length)(hb:Ybj l k≠0)(ha:Y3f l k):Y1j l=(Ybj l k,(k:Int)):=by
 unfold Y1j;rw[Yed (by simp[h0])]
 have:(List.range l.length).find? (fun k=>decide (Ybj l k≠0))=some k:=by
  exact Z4L
 rw[this]
theorem Z3z{P:Prop}(h:P:=by
 rw[Yg2]
 intro j hj
 rw[Yf6]at hj
 simp[ha j hj]):P:=h
theorem Y7q(l:PL)(h0:(Yc l).1=0)(ha:Y3f l l.length):Y1j l=(0,-1):=by
 unfold Y1j;rw[Yed (by simp[h0])]
 have:(List.range l.length).find? (fun k=>decide (Ybj l k≠0))=none:=by
  exact Z3z
 rw[this]
theorem Zp{P Q:Prop}(k:Q)(h:Q→P:=by
 have p0:W6.cell? ⟨wr.heap.size,0,none⟩=some (.string (bs x1)):=Z1s
 have p1:W6.cell? ⟨wr.heap.size,1,none⟩=some (.string (bs x2)):=Z1s
 refine fun z_=>?_
 revert p1;revert p0
 exact z_):P:=h k
theorem ZG{P Q:Prop}(k:Q)(h:Q→P:=by
 obtain⟨W6,hW6⟩: ∃W6,wr.alloc (.cells #[.string (bs x1),.string (bs x2)] 78)=W6:=⟨_,rfl⟩
 have hA6:Below wr.heap.size wr W6:=Z2O
 refine fun z_=>?_
 revert hA6;revert hW6;revert W6
 exact z_):P:=h k
theorem Z1s{P:Prop}(h:P:=by
 rw[←hW6]
 exact Z2t):P:=h
theorem Z1F{P:Prop}(h:P:=by
 rintro⟨rfl,_⟩
 simp at hlt):P:=h
theorem Z2O{P:Prop}(h:P:=by
 rw[←hW6]
 exact Ze):P:=h
end
section
open Go Go.RowKit
abbrev notU:List UInt8:= [78,111,116,85,110,100,101,114,115,116,111,111,100]
abbrev Y3J:List UInt8:= [82,101,106,101,99,116]
abbrev irrL:List UInt8:= [73,114,114,101,108,101,118,97,110,116]
def ofP(l:PL)(key:List UInt8):List UInt8×Nat:=
 match Y2j Yh key with
 | none=>([],5)
 | some k=>(if(Y2q l key).2=true then(Y2q l key).1 else k.dv,0)
def Y69(mine:PL)(x:List UInt8×List UInt8)(login disc:Bool):List UInt8×List UInt8:=
 match Y2j Yh x.1 with
 | none=>(notU,[])
 | some k =>
  if(k.lo == [76])=true∧login=false then(Y3J,[])else
  if(k.no == [78])=true∧disc=true then(irrL,[])else
  if Y3Q k x.2≠0 then(Y3J,[])else
  if k.kind=6∨k.kind=7 then([],x.2)else
  if(Y75 x.1 x.2 (ofP mine x.1).1).2≠0 then(Y3J,[])else((Y75 x.1 x.2 (ofP mine x.1).1).1,(Y75 x.1 x.2 (ofP mine x.1).1).1)
def Yi(r:PL)(key:List UInt8):PL:=r.filter fun q=> !(q.1 == key)
def recP(r:PL)(x:List UInt8×List UInt8)(is:List UInt8):PL:=if is= []then r else Yi r x.1 ++ [(x.1,is)]
def Y1x(mine:PL)(login disc:Bool):PL→PL×PL→PL×PL
 | [],s=>s
 | x :: l,(out,r)=>Y1x mine login disc l (if(Y69 mine x login disc).1= []then out else out ++ [(x.1,(Y69 mine x login disc).1)],recP r x (Y69 mine x login disc).2)
theorem Y6W(mine:PL)(login disc:Bool)(l:PL)(k:Nat)(s:PL×PL)(h:k<l.length):Y1x mine login disc (l.drop k) s=Y1x mine login disc (l.drop (k+1)) (if(Y69 mine (l.getD k ([],[])) login disc).1= []then s.1 else s.1 ++ [((l.getD k ([],[])).1,(Y69 mine (l.getD k ([],[])) login disc).1)],recP s.2 (l.getD k ([],[])) (Y69 mine (l.getD k ([],[])) login disc).2):=by
 rw[Y3E l k ([],[]) h];obtain⟨a,b⟩:=s;rw[Y1x]
theorem Y7C(mine:PL)(login disc:Bool)(l:PL)(k:Nat)(s:PL×PL)(h:l.length≤k):Y1x mine login disc (l.drop k) s=s:=by
 rw[Yff h,Y1x]
def Y2Z(offers r:PL)(login:Bool)(k:Nat):Bool:=((offers.take k).map (·.1)).contains (offers.getD k ([],[])).1 || ((r.map (·.1)).contains (offers.getD k ([],[])).1 && login)
def Y84(offers r:PL)(login:Bool):Nat×Int:=if(Yc offers).1≠0 then Yc offers else match(List.range offers.length).find? (fun k=>Y2Z offers r login k)with | some k=>(9,(k:Int)) | none=>(0,-1)
theorem Y5u(o r:PL)(login:Bool)(h:(Yc o).1≠0):Y84 o r login=Yc o:=Yei h
theorem Ydj(o r:PL)(login:Bool)(k:Nat)(h0:(Yc o).1=0)(hk:k<o.length)(hb:Y2Z o r login k=true)(ha: ∀j,j<k→Y2Z o r login j=false):Y84 o r login=(9,(k:Int)):=by
 unfold Y84;rw[Yed (by simp[h0])]
 have:(List.range o.length).find? (fun k=>Y2Z o r login k)=some k:=by
  rw[List.find?_range_eq_some];refine⟨hb,by simpa using hk,fun j hj=> ?_⟩;simp[ha j hj]
 rw[this]
theorem Y98(o r:PL)(login:Bool)(h0:(Yc o).1=0)(ha: ∀j,j<o.length→Y2Z o r login j=false):Y84 o r login=(0,-1):=by
 unfold Y84;rw[Yed (by simp[h0])]
 have:(List.range o.length).find? (fun k=>Y2Z o r login k)=none:=by
  exact Z3z
 rw[this]
end
section
open Go Go.RowKit
def Y77(n:Nat)(bad:Nat→Nat):Nat×Int:=match(List.range n).find? (fun k=>decide (bad k≠0))with | some k=>(bad k,(k:Int)) | none=>(0,-1)
def YU(bad:Nat→Nat)(k:Nat):Prop:= ∀j,j<k→bad j=0
theorem Y3s(bad:Nat→Nat):YU bad 0:=fun j hj=>absurd hj (by omega)
theorem YU.step{bad:Nat→Nat}{k:Nat}(h:YU bad k)(hk:bad k=0):YU bad (k+1):=fun j hj=>by
 rcases YeU j k with h' | h'
 ·exact h j h'
 ·obtain rfl:j=k:=by omega
  exact hk
theorem Y9W(n:Nat)(bad:Nat→Nat)(k:Nat)(hk:k<n)(hb:bad k≠0)(ha:YU bad k):Y77 n bad=(bad k,(k:Int)):=by
 unfold Y77
 have:(List.range n).find? (fun k=>decide (bad k≠0))=some k:=by
  exact Z4L
 rw[this]
theorem Y3z(n:Nat)(bad:Nat→Nat)(ha:YU bad n):Y77 n bad=(0,-1):=by
 unfold Y77
 have:(List.range n).find? (fun k=>decide (bad k≠0))=none:=by
  exact Z3z
 rw[this]
abbrev GL:=List (List UInt8×Int)
def Y8T(ts:List (List UInt8))(k:Nat):Nat:=if YF (ts.getD k [])=true∧(ts.take k).contains (ts.getD k [])=false then 0 else 5
def Y9J(gs:GL)(k:Nat):Nat:=if YF (gs.getD k ([],0)).1=false then 5 else if(gs.getD k ([],0)).2<0∨65535< (gs.getD k ([],0)).2 then 2 else 0
def Y7L(us:PL)(k:Nat):Nat:=if YF (us.getD k ([],[])).1=true∧YF (us.getD k ([],[])).2=true∧((us.take k).map (·.1)).contains (us.getD k ([],[])).1=false then 0 else 5
def Y40(n s:List UInt8):Bool:= !(n.length+s.length == 0) && !(YF n && YF s)
def Yt(ts:List (List UInt8))(gs:GL)(us:PL)(sn ss:List UInt8)(lim:Int)(own:PL):Nat×Int:=
 if 8<ts.length∨4<gs.length∨8<us.length then(4,-1)else
 if(Y77 ts.length (Y8T ts)).1≠0 then Y77 ts.length (Y8T ts)else
 if(Y77 gs.length (Y9J gs)).1≠0 then Y77 gs.length (Y9J gs)else
 if(Y77 us.length (Y7L us)).1≠0 then Y77 us.length (Y7L us)else
 if Y40 sn ss=true then(3,-1)else
 if lim<512∨100000<lim then(2,-1)else Y1j own
def YbO(ts:List (List UInt8))(gs:GL)(us:PL):Prop:=8<ts.length∨4<gs.length∨8<us.length
section
variable (ts:List (List UInt8))(gs:GL)(us:PL)(sn ss:List UInt8)(lim:Int)(own:PL)
theorem Ya7(h:YbO ts gs us):Yt ts gs us sn ss lim own=(4,-1):=Yei h
variable (h0: ¬YbO ts gs us)
include h0
theorem rightP_t(k:Nat)(hk:k<ts.length)(hb:Y8T ts k≠0)(ha:YU (Y8T ts) k):Yt ts gs us sn ss lim own=(Y8T ts k,(k:Int)):=by
 unfold Yt;rw[Yed (show ¬(8<ts.length∨4<gs.length∨8<us.length)from h0),Y9W _ _ k hk hb ha,Yei hb]
variable (ht:YU (Y8T ts) ts.length)
include ht
theorem rightP_g(k:Nat)(hk:k<gs.length)(hb:Y9J gs k≠0)(ha:YU (Y9J gs) k):Yt ts gs us sn ss lim own=(Y9J gs k,(k:Int)):=by
 unfold Yt;rw[Yed (show ¬(8<ts.length∨4<gs.length∨8<us.length)from h0),Y3z _ _ ht,Yed Z2t,Y9W _ _ k hk hb ha,Yei hb]
variable (hg:YU (Y9J gs) gs.length)
include hg
theorem rightP_u(k:Nat)(hk:k<us.length)(hb:Y7L us k≠0)(ha:YU (Y7L us) k):Yt ts gs us sn ss lim own=(Y7L us k,(k:Int)):=by
 unfold Yt;rw[Yed (show ¬(8<ts.length∨4<gs.length∨8<us.length)from h0),Y3z _ _ ht,Yed Z2t,Y3z _ _ hg,Yed Z2t,Y9W _ _ k hk hb ha,Yei hb]
variable (hu:YU (Y7L us) us.length)
include hu
theorem Ya6:Yt ts gs us sn ss lim own=if Y40 sn ss=true then(3,-1)else if lim<512∨100000<lim then(2,-1)else Y1j own:=by
 unfold Yt;rw[Yed (show ¬(8<ts.length∨4<gs.length∨8<us.length)from h0),Y3z _ _ ht,Yed Z2t,Y3z _ _ hg,Yed Z2t,Y3z _ _ hu,Yed Z2t]
end
end
section
open Go Go.RowKit
def Y1U{α:Type}(f:α→Nat)(l:List α):Nat:=(l.map f).sum
theorem Y3v{α:Type}(f:α→Nat)(l:List α)(k:Nat)(d:α)(h:k<l.length):Y1U f (l.take (k+1))=Y1U f (l.take k) +f (l.getD k d):=by
 rw[Yeq h,List.getD,Yec h];unfold Y1U;rw[Yfi,List.sum_append];simp only[Yf2,YeY,YfH,List.sum_cons,List.sum_nil,Yfz]
theorem Y30{α:Type}(f:α→Nat)(l:List α)(k:Nat):Y1U f (l.take k)≤Y1U f l:=by
 have e:l=l.take k ++ l.drop k:=(YfA k l).symm;have h2:Y1U f (l.take k ++ l.drop k)=Y1U f (l.take k) +Y1U f (l.drop k):=by unfold Y1U;rw[Yfi,List.sum_append]
 rw[←e]at h2;exact Z7
theorem Y6i{α:Type}(f:α→Nat)(l:List α)(k:Nat)(d:α)(h:k<l.length):f (l.getD k d)≤Y1U f l:=by
 have h1:=Y3v f l k d h;have h2:=Y30 f l (k+1);exact Z7
theorem Y2O{α:Type}(f:α→Nat)(l:List α)(h: ∀x,1≤f x):l.length≤Y1U f l:=by
 induction l with
 | nil=>simp
 | cons x l ih =>
  have:=h x;simp only[Y1U,YeY,List.sum_cons,YeH]at ih ⊢;omega
def szT(x:List UInt8):Nat:=1+x.length
def szG(x:List UInt8×Int):Nat:=1+x.1.length
def szP(x:List UInt8×List UInt8):Nat:=1+x.1.length+x.2.length
def poF(x:List UInt8×Int):Value:= .string (bs x.1)
def poG(x:List UInt8×Int):Value:= .int .i64 x.2
def GSl(w:World)(v:Value)(l:GL):Prop:=Sl w v 2 l.length (Y4w poF poG l)
theorem GSl.below{w w':World}{v:Value}{l:GL}(h:GSl w v l)(hb:Below w.heap.size w w'):GSl w' v l:=Sl.below h (by omega) hb
theorem GSl.open_{w:World}{v:Value}{l:GL}(h:GSl w v l):(l= []∧ ∃a c,v= .slice a 0 c)∨
 (0<l.length∧ ∃b o c,v= .slice (some ⟨b,o,none⟩) l.length c∧b<w.heap.size∧ ∀k,k<l.length→w.cell? ⟨b,o+k * 2,none⟩=some (.string (bs (l.getD k ([],0)).1))∧w.cell? ⟨b,o+k * 2+1,none⟩=some (.int .i64 (l.getD k ([],0)).2)):=sl2_open (F:=poF) (G:=poG) ([],0) h
structure YD(w:World)(ts:List (List UInt8))(gs:GL)(us:PL)(sn ss:List UInt8)(lim:Int)(own:PL)(tv gv uv ov:Value):Prop where
 ht:TSl w tv ts
 hg:GSl w gv gs
 hu:PSl w uv us
 ho:PSl w ov own
 bound:Y1U szT ts+Y1U szG gs+Y1U szP us+Y1U szP own+sn.length+ss.length≤1048576
 capO: ∀a c,ov= .slice a own.length c→own.length≤c
 capT: ∀k,-9223372036854775808≤(gs.getD k ([],0)).2∧(gs.getD k ([],0)).2≤9223372036854775807
 capU: ∀a c,uv= .slice a us.length c→us.length≤c
 limB: -9223372036854775808≤lim∧lim≤9223372036854775807
 capS: ∀a c,tv= .slice a ts.length c→ts.length≤c
theorem YD.below{w w':World}{ts:List (List UInt8)}{gs:GL}{us:PL}{sn ss:List UInt8}{lim:Int}{own:PL}{tv gv uv ov:Value}(h:YD w ts gs us sn ss lim own tv gv uv ov)(hb:Below w.heap.size w w'):YD w' ts gs us sn ss lim own tv gv uv ov:=
 ⟨h.ht.below hb,h.hg.below hb,h.hu.below hb,h.ho.below hb,h.bound,h.capO,h.capT,h.capU,h.limB,h.capS⟩
theorem Z8{P Q:Prop}(k:Q)(h:Q→P:=by
 refine Z18 ?_;intro W1 hW1 b1 t0 t1 t2 t3 t4
 have t5:W1.cell? ⟨w.heap.size,5,none⟩=some (.int .i64 lim):=Z1J
 have t6:W1.cell? ⟨w.heap.size,6,none⟩=some (.slice oa own.length oc):=Z1J
 have z1:W1.heap.size=w.heap.size+1:=Z1J
 refine fun z_=>?_
 revert z1;revert t6;revert t5;revert t4;revert t3;revert t2;revert t1;revert t0;revert b1;revert hW1;revert W1
 exact z_):P:=h k
theorem Z18{P Q:Prop}(k:Q)(h:Q→P:=by
 refine Z58 ?_;intro W1 hW1
 have b1:Below w.heap.size w W1:=by rw[←hW1];exact Ze
 have t0:W1.cell? ⟨w.heap.size,0,none⟩=some (.slice ta ts.length tc):=Z1J
 have t1:W1.cell? ⟨w.heap.size,1,none⟩=some (.slice ga gs.length gc):=Z1J
 have t2:W1.cell? ⟨w.heap.size,2,none⟩=some (.slice ua us.length uc):=Z1J
 have t3:W1.cell? ⟨w.heap.size,3,none⟩=some (.string (bs sn)):=Z1J
 have t4:W1.cell? ⟨w.heap.size,4,none⟩=some (.string (bs ss)):=Z1J
 refine fun z_=>?_
 revert t4;revert t3;revert t2;revert t1;revert t0;revert b1;revert hW1;revert W1
 exact z_):P:=h k
theorem Z1z{P Q:Prop}(k:Q)(h:Q→P:=by
 have T1:=hid ((hb.cell (p:=⟨w.heap.size,1,none⟩) hpw).trans t1)
 have T2:=hid ((hb.cell (p:=⟨w.heap.size,2,none⟩) hpw).trans t2)
 have T3:=hid ((hb.cell (p:=⟨w.heap.size,3,none⟩) hpw).trans t3)
 have T4:=hid ((hb.cell (p:=⟨w.heap.size,4,none⟩) hpw).trans t4)
 refine fun z_=>?_
 revert T4;revert T3;revert T2;revert T1
 exact z_):P:=h k
theorem Z4J{P Q:Prop}(k:Q)(h:Q→P:=by
 have T2:=hid ((hb.cell (p:=⟨w.heap.size,2,none⟩) hp1).trans T2.out)
 have T3:=hid ((hb.cell (p:=⟨w.heap.size,3,none⟩) hp1).trans T3.out)
 have T4:=hid ((hb.cell (p:=⟨w.heap.size,4,none⟩) hp1).trans T4.out)
 refine fun z_=>?_
 revert T4;revert T3;revert T2
 exact z_):P:=h k
theorem Z58{P Q:Prop}(k:Q)(h:Q→P:=by
 obtain⟨W1,hW1⟩: ∃W1,w.alloc (.cells #[.slice ta ts.length tc,.slice ga gs.length gc,.slice ua us.length uc,.string (bs sn),.string (bs ss),.int .i64 lim,.slice oa own.length oc] 29)=W1:=⟨_,rfl⟩
 refine fun z_=>?_
 revert hW1;revert W1
 exact z_):P:=h k
section
variable {w:World}{ts:List (List UInt8)}{gs:GL}{us:PL}{sn ss:List UInt8}{lim:Int}{own:PL}{tv gv uv ov:Value}
theorem YD.tn(h:YD w ts gs us sn ss lim own tv gv uv ov):ts.length≤1048576:=by
 have h1:=Y2O szT ts (fun x=>by unfold szT;exact Z7);have h2:=h.bound;exact Z7
theorem YD.gn(h:YD w ts gs us sn ss lim own tv gv uv ov):gs.length≤1048576:=by
 have h1:=Y2O szG gs (fun x=>by unfold szG;exact Z7);have h2:=h.bound;exact Z7
theorem YD.un(h:YD w ts gs us sn ss lim own tv gv uv ov):us.length≤1048576:=by
 have h1:=Y2O szP us (fun x=>by unfold szP;exact Z7);have h2:=h.bound;exact Z7
theorem YD.on(h:YD w ts gs us sn ss lim own tv gv uv ov):own.length≤1048576:=by
 have h1:=Y2O szP own (fun x=>by unfold szP;exact Z7);have h2:=h.bound;exact Z7
theorem YD.tl(h:YD w ts gs us sn ss lim own tv gv uv ov)(k:Nat)(hk:k<ts.length):(ts.getD k []).length≤1048576:=by
 have h1:=Y6i szT ts k [] hk;have h2:=h.bound;unfold szT at h1 h2;exact Z7
theorem YD.gl(h:YD w ts gs us sn ss lim own tv gv uv ov)(k:Nat)(hk:k<gs.length):(gs.getD k ([],0)).1.length≤1048576:=by
 have h1:=Y6i szG gs k ([],0) hk;have h2:=h.bound;unfold szG at h1 h2;exact Z7
theorem YD.ul(h:YD w ts gs us sn ss lim own tv gv uv ov)(k:Nat)(hk:k<us.length):(us.getD k ([],[])).1.length≤1048576∧(us.getD k ([],[])).2.length≤1048576:=by
 have h1:=Y6i szP us k ([],[]) hk;have h2:=h.bound;unfold szP at h1 h2;exact Z7
theorem YD.ol(h:YD w ts gs us sn ss lim own tv gv uv ov)(k:Nat):(own.getD k ([],[])).1.length≤1048576∧(own.getD k ([],[])).2.length≤1048576:=by
 rcases YeU k own.length with hk | hk
 ·have h1:=Y6i szP own k ([],[]) hk;have h2:=h.bound;unfold szP at h1 h2;exact Z7
 ·rw[List.getD,Yfq hk];exact Z2t
theorem YD.snl(h:YD w ts gs us sn ss lim own tv gv uv ov):sn.length≤1048576:=by have:=h.bound;omega
theorem YD.ssl(h:YD w ts gs us sn ss lim own tv gv uv ov):ss.length≤1048576:=by have:=h.bound;omega
theorem YD.pbd(h:YD w ts gs us sn ss lim own tv gv uv ov):PBd own:=⟨by have:=h.on;omega,fun k=>by have:=h.ol k;omega⟩
end
end
section
open Go Go.RowKit
def SN(g:Nat)(rv:Value)(k:Nat):Prop:=k=g∨rv.ownBlock=some k
structure NSt(T:TypeId)(w:World)(rv ov:Value)(B g pb:Nat)(x1 x2:List UInt8)(W:World)(rvk:Value)(r:PL)(o:Value)(out:PL):Prop where
 bN:Blk W g T #[ov,rvk]
 bP:Blk W pb 78 #[.string (bs x1),.string (bs x2)]
 hR:W.ownsRow B 78 2 rvk r.length (Y0 r)
 hO:W.ownsRow w.heap.size 78 2 o out.length (Y0 out)
 rb:rvk.ownBlock=rv.ownBlock∨ ∃q,rvk.ownBlock=some q∧w.heap.size≤q
 ap: ∀q,o.ownBlock=some q→rvk.ownBlock≠some q
 pR:rvk.ownBlock≠some pb
 pO:o.ownBlock≠some pb
 gR:rvk.ownBlock≠some g
 gw:g<w.heap.size
 gp:g≠pb
 K:Y1 (SN g rv) w W
theorem Y1w{w w':World}{b:Nat}{T:TypeId}{cs:Array Value}{r:Option Nat}(h:Blk w b T cs)(hg:w.grownBy w' r)(hr:r≠some b):Blk w' b T cs:=(hg.block b h.lt (fun e=>hr e.symm)).trans h
theorem Z2q{P:Prop}(h:P:=by
 have:=Yey e
 exact Z7):P:=h
theorem Z3S{P Q:Prop}(k:Q)(h:Q→P:=by
 have HST:=hid (fun(ht:Y2Z offers rec login k=false)=>show ∀j,j<k+1→Y2Z offers rec login j=false from fun j hj=>by
  rcases YeU j k with h' | h'
  ·exact HA.out j h'
  ·obtain rfl:j=k:=by omega
   exact ht)
 refine fun z_=>?_
 revert HST
 exact z_):P:=h k
section
variable {T:TypeId}{w:World}{rv ov:Value}{B g pb:Nat}{x1 x2:List UInt8}{W:World}{rvk:Value}{r:PL}{o:Value}{out:PL}
theorem NSt.gO(h:NSt T w rv ov B g pb x1 x2 W rvk r o out):o.ownBlock≠some g:=fun e=>by have:=(h.hO.lt g e).1;have:=h.gw;omega
theorem NSt.wW(h:NSt T w rv ov B g pb x1 x2 W rvk r o out):w.heap.size≤W.heap.size:=h.K.size
theorem NSt.below{W':World}(h:NSt T w rv ov B g pb x1 x2 W rvk r o out)(hb:Below W.heap.size W W'):NSt T w rv ov B g pb x1 x2 W' rvk r o out:=
 ⟨h.bN.below hb,h.bP.below hb,Y2 h.hR hb,Y2 h.hO hb,h.rb,h.ap,h.pR,h.pO,h.gR,h.gw,h.gp,h.K.below hb⟩
theorem NSt.app{w8:World}{ob:Obj}{v':Value}{a1:List UInt8}(h:NSt T w rv ov B g pb x1 x2 W rvk r o out)(hg:(W.alloc ob).grownBy w8 o.ownBlock)
 (hown:w8.ownsRow w.heap.size 78 2 v' (out.length+1) (Y0 out ++ [.string (bs x1),.string (bs a1)])) (hat:v'.ownBlock=o.ownBlock∨v'.ownBlock=some (W.alloc ob).heap.size):
 NSt T w rv ov B g pb x1 x2 w8 rvk r v' (out ++ [(x1,a1)]):=by
 have hA:=h.below ((Yea W.heap.size W).alloc (Ye9 _) ob);have hz:(W.alloc ob).heap.size=W.heap.size+1:=Z2t;have hpl:=h.bP.lt;refine⟨Y1w hA.bN hg h.gO,Y1w hA.bP hg h.pO,Y24 hA.hR hg (fun q hq e=>h.ap q e hq),by rw[Ys,Yem];exact hown,h.rb,?_,h.pR,?_,h.gR,h.gw,h.gp,hA.K.only hg (fun q hq=> .inr (h.hO.lt q hq).1)⟩
 ·intro q hq e;rcases hat with h1 | h1
  ·exact h.ap q (h1 ▸hq) e
  ·rw[h1]at hq
   cases hq
   have:=(h.hR.lt _ e).2;exact Z7
 ·intro e;rcases hat with h1 | h1
  ·exact h.pO (h1 ▸e)
  ·rw[h1]at e
   cases e
   exact Z7
theorem NSt.del{w9:World}{rv1:Value}{r1:PL}(h:NSt T w rv ov B g pb x1 x2 W rvk r o out)(hg:W.grownBy w9 rvk.ownBlock)(hown:w9.ownsRow B 78 2 rv1 r1.length (Y0 r1))(hb:rv1.ownBlock=rvk.ownBlock):
 NSt T w rv ov B g pb x1 x2 (w9.setCell ⟨g,1,none⟩ rv1) rv1 r1 o out∧Blk w9 g T #[ov,rvk]:=by
 have hN:=Y1w h.bN hg h.gR
 have hK:=h.K.only hg (fun q hq=>by
  rcases h.rb with h1 | ⟨q',h1,h2⟩
  ·exact .inl (.inr (h1 ▸hq))
  ·rw[h1]at hq
   cases hq
   exact .inr h2)
 refine⟨⟨hN.set 1 rv1,(Y1w h.bP hg h.pR).far (p:=⟨g,1,none⟩) (Ne.symm h.gp) _,Y23 hown _ _ _ (by rw[hb];exact h.gR),Y23 (Y24 h.hO hg (fun q hq=>h.ap q hq)) _ _ _ h.gO,by rw[hb];exact h.rb,by rw[hb];exact h.ap,by rw[hb];exact h.pR,h.pO,by rw[hb];exact h.gR,h.gw,h.gp,hK.set _ _ (.inl (.inl rfl))⟩,hN⟩
theorem NSt.recd{w11 Wd:World}{rv2:Value}{a2:List UInt8}(h:NSt T w rv ov B g pb x1 x2 W rvk r o out)(hbd:Below W.heap.size W Wd)(hz:W.heap.size<Wd.heap.size)(hg:Wd.grownBy w11 rvk.ownBlock)
 (hown:w11.ownsRow B 78 2 rv2 (r.length+1) (Y0 r ++ [.string (bs x1),.string (bs a2)])) (hat:rv2.ownBlock=rvk.ownBlock∨rv2.ownBlock=some Wd.heap.size):
 NSt T w rv ov B g pb x1 x2 (w11.setCell ⟨g,1,none⟩ rv2) rv2 (r ++ [(x1,a2)]) o out∧Blk w11 g T #[ov,rvk]:=by
 have hA:=h.below hbd;have hpl:=h.bP.lt;have hgl:=h.bN.lt;have hwW:=h.wW;have hN:=Y1w hA.bN hg h.gR
 have hK:=hA.K.only hg (fun q hq=>by
  rcases h.rb with h1 | ⟨q',h1,h2⟩
  ·exact .inl (.inr (h1 ▸hq))
  ·rw[h1]at hq
   cases hq
   exact .inr h2)
 have hg2:rv2.ownBlock≠some g:=fun e=>by
  rcases hat with h1 | h1
  ·exact h.gR (h1 ▸e)
  ·rw[h1]at e
   cases e
   exact Z7
 refine⟨⟨hN.set 1 rv2,(Y1w hA.bP hg h.pR).far (p:=⟨g,1,none⟩) (Ne.symm h.gp) _,Y23 (by rw[Ys,Yem];exact hown) _ _ _ hg2,Y23 (Y24 hA.hO hg (fun q hq=>h.ap q hq)) _ _ _ h.gO,?_,?_,?_,h.pO,hg2,h.gw,h.gp,hK.set _ _ (.inl (.inl rfl))⟩,hN⟩
 ·rcases hat with h1 | h1
  ·rw[h1];exact h.rb
  ·exact .inr ⟨_,h1,by omega⟩
 ·intro q hq e;rcases hat with h1 | h1
  ·exact h.ap q hq (h1 ▸e)
  ·rw[h1]at e
   cases e
   have:=(h.hO.lt _ hq).2;exact Z7
 ·intro e;rcases hat with h1 | h1
  ·exact h.pR (h1 ▸e)
  ·rw[h1]at e
   cases e
   exact Z7
theorem NSt.newrec{W1:World}{rv2:Value}{r2:PL}(h:NSt T w rv ov B g pb x1 x2 W rvk r o out)(hb:Below W.heap.size W W1)(hown:W1.ownsRow W.heap.size 78 2 rv2 r2.length (Y0 r2))(hB:B≤w.heap.size)(hne:0<r2.length):
 NSt T w rv ov B g pb x1 x2 (W1.setCell ⟨g,1,none⟩ rv2) rv2 r2 o out∧Blk W1 g T #[ov,rvk]:=by
 have hA:=h.below hb;have hgl:=h.bN.lt;have hpl:=h.bP.lt;have hwW:=h.wW;have hg2:rv2.ownBlock≠some g:=fun e=>by have:=(hown.lt g e).1;exact Z7
 refine⟨⟨hA.bN.set 1 rv2,hA.bP.far (p:=⟨g,1,none⟩) (Ne.symm h.gp) _,?_,Y23 hA.hO _ _ _ h.gO,?_,?_,?_,h.pO,hg2,h.gw,h.gp,hA.K.set _ _ (.inl (.inl rfl))⟩,hA.bN⟩
 ·have:=Y23 hown g 1 rv2 hg2;rcases this.2 with h0 | ⟨q,cap,cur,h1,h2,h3⟩
  ·exact⟨this.1,.inl h0⟩
  ·exact⟨this.1,.inr ⟨q,cap,cur,h1,by omega,h3⟩⟩
 ·cases hq:rv2.ownBlock with
  | none =>
   rcases hown.2 with ⟨_,h0⟩ | ⟨q,cap,cur,rfl,_⟩
   ·omega
   ·simp[Value.ownBlock]at hq
  | some q=>exact .inr ⟨q,rfl,by have:=(hown.lt q hq).1;omega⟩
 ·intro q hq e;have h1:=(hown.lt q e).1;have h2:=(h.hO.lt q hq).2;exact Z7
 ·intro e;have h1:=(hown.lt pb e).1;exact Z7
end
end
section
open Go.Proofs.Tryz
open Go Go.RowKit
def szQ(x:List UInt8×List UInt8):Nat:=x.1.length+x.2.length
theorem Y7N(l:PL):Y1U szP l=l.length+Y1U szQ l:=by
 induction l with
 | nil=>rfl
 | cons x l ih=>simp only[Y1U,YeY,List.sum_cons,YeH,szP,szQ]at ih ⊢;omega
def RThk(l:PL)(w:World)(sum i:Value)(wr:World):Prop:=
 ∃ (k s:Nat),k≤l.length∧i= .int .i64 (k:Nat)∧sum= .int .i64 (s:Nat)∧s≤1048576∧Hid (s=l.length+Y1U szQ (l.take k))∧Below w.heap.size w wr
theorem Y7c(v:Value)(l:PL)(w:World)(h:PSl w v l)(hb:Y1U szP l≤1048576):
 Calls prog 6 #[v] w fun e w'=>e= .returned (.bool (decide (4000<Y1U szP l)))∧Below w.heap.size w w':=by
 have hn:l.length≤1048576:=by rw[Y7N]at hb;exact Z7
 have hF:=h;obtain⟨sa,sc,rfl,_,_⟩:=hF;generalize hTT:Y1U szP l=T at *;have HTT:=hid hTT;clear hTT;go_enter func6,ntmps6;go_wp2;go_loopw [3,10] (fun sum i wr=>RThk l w sum i wr) (fun _ i _=>l.length - (intOf i).toNat)
 case atStart=>exact⟨0,l.length,by omega,rfl,rfl,hn,hid (by simp[Y1U]),Yea _ _⟩
 case round =>
  obtain⟨k,s,hk,rfl,rfl,hs,HS,hbw⟩:=hrel;have hB:=hbw.size;by_cases hlt:k<l.length
  ·obtain⟨_,b,o,c,hveq,hbl,hcell⟩:=(h.below hbw).open_.resolve_left Z1F
   cases hveq
   obtain⟨g0,g1⟩:=hcell k hlt;have h1:=Y3v szQ l k ([],[]) hlt;have h2:=Y30 szQ l (k+1);have hb2:l.length+Y1U szQ l≤1048576:=by rw[←Y7N,HTT.out];exact hb
   have HS2:=hid (show s+szQ (l.getD k ([],[]))=l.length+Y1U szQ (l.take (k+1)) by rw[HS.out,h1];exact Z7);have h3:s+szQ (l.getD k ([],[]))≤1048576:=by rw[HS2.out];exact Z7
   clear hcell h1 h2 hb2 h HS;generalize l.getD k ([],[])=x at *;obtain⟨x1,x2⟩:=x;unfold szQ at h3 HS2;simp only at *;go_wp2;refine⟨⟨k+1,s+(x1.length+x2.length),by omega,by go_num,by go_num,by omega,hid HS2.out,hbw.alloc hB _⟩,by simp[intOf];omega⟩
  ·obtain rfl:k=l.length:=Z7;obtain rfl:s=T:=by rw[←HTT.out,Y7N,HS.out,Yex]
   clear HS h hb HTT;by_cases h4:4000<s
   ·have d1:decide ((4000:Int) < (s:Int))=true:=Yel Z7;have HD:=hid (Yel h4);clear h4;go_wp2;go_ret;exact⟨by rw[HD.out];rfl,hbw⟩
   ·have d1:decide ((4000:Int) < (s:Int))=false:=Yeh Z7;have HD:=hid (Yeh h4);clear h4;go_wp2;go_ret;exact⟨by rw[HD.out];rfl,hbw⟩
def confT(ts:List (List UInt8))(gs:GL)(us:PL)(sn ss:List UInt8):Nat:=Y1U szT ts+Y1U szG gs+Y1U szP us+sn.length+ss.length
def Y9s(ts:List (List UInt8))(gs:GL)(us:PL)(sn ss:List UInt8)(own:PL):Bool:=decide (2500<confT ts gs us sn ss) || decide (4000<Y1U szP own)
def RCrw{α:Type}(f:α→Nat)(l:List α)(s0 B:Nat)(W:World)(sum i:Value)(wr:World):Prop:=
 ∃ (k s:Nat),k≤l.length∧i= .int .i64 (k:Nat)∧sum= .int .i64 (s:Nat)∧s≤1048576∧Hid (s=s0+Y1U f (l.take k))∧Below B W wr
section
variable (ta ga ua oa:Option Addr)(tc gc uc oc:Nat)(ts:List (List UInt8))(gs:GL)(us:PL)(sn ss:List UInt8)(lim:Int)(own:PL)(w:World)
 (C:YD w ts gs us sn ss lim own (.slice ta ts.length tc) (.slice ga gs.length gc) (.slice ua us.length uc) (.slice oa own.length oc))
include C
theorem YaC:Calls prog 5 #[Y2I (.slice ta ts.length tc) (.slice ga gs.length gc) (.slice ua us.length uc) (.slice oa own.length oc) sn ss lim] w fun e w'=>e= .returned (.bool (Y9s ts gs us sn ss own))∧Below w.heap.size w w':=by
 refine Z18 ?_;intro W1 hW1 b1 t0 t1 t2 t3 t4;have t6:W1.cell? ⟨w.heap.size,6,none⟩=some (.slice oa own.length oc):=Z1J;have z1:W1.heap.size=w.heap.size+1:=Z1J;have HC:=hid C;have hbt:=C.bound;have tn:=C.tn;have gn:=C.gn;have un:=C.un;have ct:=fun W (hb:Below w.heap.size w W)=>hid (Y7c _ own W (C.ho.below hb) Z7)
 have hpw:w.heap.size<W1.heap.size:=Z7;have hsl:=Y30 szT ts;unfold Y2I Y9s confT;generalize hTT:Y1U szT ts=TT at *;generalize hTG:Y1U szG gs=TG at *;generalize hTU:Y1U szP us=TU at *;generalize Y1U szP own=TO at *;have HTT:=hid hTT;have HTG:=hid hTG;have HTU:=hid hTU;clear C hTT hTG hTU hsl;go_enter func5,ntmps5;go_wp2;go_loopw [3,13] (fun sum i wr=>RCrw szT ts 0 W1.heap.size W1 sum i wr) (fun _ i _=>ts.length - (intOf i).toNat)
 case atStart=>exact⟨0,0,by omega,rfl,rfl,by omega,hid (by simp[Y1U]),Yea _ _⟩
 case round =>
  obtain⟨k,s,hk,rfl,rfl,hs,HS,hb⟩:=hrel;have hB:=hb.size;have bw:=b1.trans (hb.mono b1.size);by_cases hlt:k<ts.length
  ·obtain⟨b,o,rfl,hbl,hcell⟩:=(HC.out.ht.below bw).open_ Z7;have g0:=hcell k hlt;have h1:=Y3v szT ts k [] hlt;have h2:=Y30 szT ts (k+1);rw[HTT.out]at h2;have HS2:=hid (show s+szT (ts.getD k [])=0+Y1U szT (ts.take (k+1)) by rw[HS.out,h1];exact Z7);have h3:s+szT (ts.getD k [])≤1048576:=by rw[HS2.out];exact Z7
   clear hcell h1 h2 HS;generalize ts.getD k []=x at *;unfold szT at h3 HS2;go_wp2;refine⟨⟨k+1,s+(1+x.length),by omega,by go_num,by go_num,by omega,hid HS2.out,hb⟩,by simp[intOf];omega⟩
  ·obtain rfl:k=ts.length:=Z7;have hs0:s=TT:=by rw[HS.out,Yex,HTT.out];exact Z7
   refine Z1z ?_;intro T1 T2 T3 T4;have T6:=hid ((hb.cell (p:=⟨w.heap.size,6,none⟩) hpw).trans t6);have hp1:w.heap.size<wr.heap.size:=Z7;subst hs0;clear HS hb hB t0 t1 t2 t3 t4 t6 hlt
   rename World=>wo
   have t1:=T1.out;go_wp2;go_loopw [3,26] (fun sum i wr=>RCrw szG gs s wo.heap.size wo sum i wr) (fun _ i _=>gs.length - (intOf i).toNat)
   case atStart=>exact⟨0,s,by omega,rfl,rfl,by omega,hid (by simp[Y1U]),Yea _ _⟩
   case round =>
    obtain⟨k,q,hk,rfl,rfl,hq,HS,hb⟩:=hrel;have hB:=hb.size;have bw2:=bw.trans (hb.mono bw.size);by_cases hlt:k<gs.length
    ·obtain⟨_,b,o,c,hveq,hbl,hcell⟩:=(HC.out.hg.below bw2).open_.resolve_left Z1F
     cases hveq
     obtain⟨g0,g1⟩:=hcell k hlt;have h1:=Y3v szG gs k ([],0) hlt;have h2:=Y30 szG gs (k+1);rw[HTG.out]at h2;have HS2:=hid (show q+szG (gs.getD k ([],0))=s+Y1U szG (gs.take (k+1)) by rw[HS.out,h1];exact Z7);have h3:q+szG (gs.getD k ([],0))≤1048576:=by rw[HS2.out];exact Z7
     clear hcell h1 h2 HS;generalize gs.getD k ([],0)=x at *;obtain⟨x1,x2⟩:=x;unfold szG at h3 HS2;simp only at *;go_wp2;refine⟨⟨k+1,q+(1+x1.length),by omega,by go_num,by go_num,by omega,hid HS2.out,hb.alloc hB _⟩,by simp[intOf];omega⟩
    ·obtain rfl:k=gs.length:=Z7;have hs0:q=s+TG:=by rw[HS.out,Yex,HTG.out]
     refine Z4J ?_;intro T2 T3 T4;have T6:=hid ((hb.cell (p:=⟨w.heap.size,6,none⟩) hp1).trans T6.out);have hp2:w.heap.size<wr.heap.size:=Z7;have HQ:=hid hs0;clear HS hb hB t1 hlt hs0
     rename World=>wo2
     have t2:=T2.out;go_wp2;go_loopw [3,40] (fun sum i wr=>RCrw szP us q wo2.heap.size wo2 sum i wr) (fun _ i _=>us.length - (intOf i).toNat)
     case atStart=>exact⟨0,q,by omega,rfl,rfl,by omega,hid (by simp[Y1U]),Yea _ _⟩
     case round =>
      obtain⟨k,r,hk,rfl,rfl,hr,HS,hb⟩:=hrel;have hB:=hb.size;have bw3:=bw2.trans (hb.mono bw2.size);by_cases hlt:k<us.length
      ·obtain⟨_,b,o,c,hveq,hbl,hcell⟩:=(HC.out.hu.below bw3).open_.resolve_left Z1F
       cases hveq
       obtain⟨g0,g1⟩:=hcell k hlt;have h1:=Y3v szP us k ([],[]) hlt;have h2:=Y30 szP us (k+1);rw[HTU.out]at h2;have HS2:=hid (show r+szP (us.getD k ([],[]))=q+Y1U szP (us.take (k+1)) by rw[HS.out,h1];exact Z7);have h3:r+szP (us.getD k ([],[]))≤1048576:=by rw[HS2.out,HQ.out];exact Z7
       clear hcell h1 h2 HS;generalize us.getD k ([],[])=x at *;obtain⟨x1,x2⟩:=x;unfold szP at h3 HS2;simp only at *;go_wp2;refine⟨⟨k+1,r+(1+x1.length+x2.length),by omega,by go_num,by go_num,by omega,hid HS2.out,hb.alloc hB _⟩,by simp[intOf];omega⟩
      ·obtain rfl:k=us.length:=Z7;have hs0:r=s+TG+TU:=by rw[HS.out,Yex,HTU.out,HQ.out]
       have t3:=(hb.cell (p:=⟨w.heap.size,3,none⟩) hp2).trans T3.out;have t4:=(hb.cell (p:=⟨w.heap.size,4,none⟩) hp2).trans T4.out;have t6:=(hb.cell (p:=⟨w.heap.size,6,none⟩) hp2).trans T6.out;have hrb:r+sn.length+ss.length≤1048576:=Z7;clear HS hb hB t2 hlt HQ T2 T3 T4 T6 HTT HTG HTU;by_cases hd:2500<r+sn.length+ss.length
       ·have d1:decide ((2500:Int) < (r:Int) +(sn.length:Int) +(ss.length:Int))=true:=Yel Z7;have HD:=hid (Yel (show 2500<s+TG+TU+sn.length+ss.length from Z7));clear hd hs0;go_wp2;go_ret;exact⟨by rw[HD.out,Bool.true_or];rfl,bw3⟩
       ·have d1:decide ((2500:Int) < (r:Int) +(sn.length:Int) +(ss.length:Int))=false:=Yeh Z7;have HD:=hid (Yeh (show ¬2500<s+TG+TU+sn.length+ss.length from Z7));have ct:=ct _ bw3;generalize hX:decide (4000<TO)=X at *;have HX:=hid hX;clear hd hX hs0;go_wp2_with fail;refine ct.out.mono ?_;rintro e w9 ⟨rfl,hb9⟩;go_wp2;go_ret;exact⟨by rw[HD.out,Yg6,HX.out];rfl,bw3.trans (hb9.mono bw3.size)⟩
end
end
end Go.Proofs.YtfadikchijkcfaaGreatDoor
