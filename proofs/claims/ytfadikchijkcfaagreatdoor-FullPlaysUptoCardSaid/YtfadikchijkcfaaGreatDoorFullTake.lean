/- The flags of a text request; sessions whose parts are written. -/
import Derived.Test.YtfadikchijkcfaaGreatDoorParsePure
import Derived.Test.YtfadikchijkcfaaGreatDoorFullPiece
import Derived.Test.YtfadikchijkcfaaGreatDoorAppRow
import Derived.Test.YtfadikchijkcfaaGreatDoorBothN
import Derived.Deep.RegionHeld3
import Derived.Test.YtfadikchijkcfaaGreatDoorTList
import Derived.Test.YtfadikchijkcfaaGreatDoorPairPrintR
import Derived.Test.YtfadikchijkcfaaGreatDoorFullRefR
import Derived.Test.YtfadikchijkcfaaGreatDoorOpen
set_option linter.unusedVariables false
set_option linter.unusedSectionVars false
set_option linter.unusedSimpArgs false
set_option maxRecDepth 100000
set_option maxHeartbeats 2000000
namespace Go.Proofs.YtfadikchijkcfaaGreatDoor
section
open Go Go.RowKit
theorem YdZ:(List.range 256).all (fun f=>(bits .and .i64 ((f:Nat):Int) 64 !=0) == Y1V ((f:Nat):Int))=true:=by decide +kernel
theorem Ycp:(List.range 256).all (fun f=>(bits .and .i64 ((f:Nat):Int) 128 !=0) == Y6G ((f:Nat):Int))=true:=by decide +kernel
theorem bit64(f:Int)(h0:0≤f)(h1:f≤255):(bits .and .i64 f 64 !=0)=Y1V f:=by
 obtain⟨n,rfl⟩: ∃n:Nat,f=(n:Int):=⟨f.toNat,by omega⟩;have:=Yew.1 YdZ n (Yf6.2 Z7);exact Z2Y
theorem bit128(f:Int)(h0:0≤f)(h1:f≤255):(bits .and .i64 f 128 !=0)=Y6G f:=by
 obtain⟨n,rfl⟩: ∃n:Nat,f=(n:Int):=⟨f.toNat,by omega⟩;have:=Yew.1 Ycp n (Yf6.2 Z7);exact Z2Y
theorem Y5Y{p:PK}(hE:Y2L p.op p.now p.flags p.vs p.n p.I p.d=0):0≤p.flags∧p.flags≤255:=by
 obtain⟨h1,_⟩:=Y4k hE;obtain⟨r,hr⟩:=Y43 _ _ _ _ h1;exact⟨hr.flags0,hr.flags1⟩
theorem Y2F{S:Nat→Prop}{a w:World}(hk:Y1 S a w){base:Nat}{e:TypeId}{size n:Nat}{v:Value}{xs:List Value}(h:a.ownsRow base e size v n xs)(hn: ∀q,v.ownBlock=some q→ ¬S q):w.ownsRow base e size v n xs:=by
 exact Z20
theorem Y6y{w:World}{base n:Nat}{v:Value}{xs:List Value}{U:TypeId}{b:Nat}{cs:Array Value}(h:w.ownsRow base 78 2 v n xs)(k:Blk w b U cs)(hn:U≠78):v.ownBlock≠some b:=by
 exact Z2a
theorem Yb3{w:World}{B n:Nat}{v:Value}{l:List (List UInt8)}(h:w.ownsRow B 9 1 v n (strCells l))(hn:n=l.length)(h0:n≠0):Y2p w B v l:=by
 subst hn;rcases h.2 with ⟨rfl,hz⟩ | ⟨q,cap,cur,rfl,hb,hg,hnc,hcm,hcs,htake⟩
 ·exact absurd hz h0
 ·refine⟨_,cap,rfl,hnc,by unfold maxLen at hcm;omega,.inr ⟨q,0,cur,hb,rfl,hg,fun j s hj=> ?_⟩⟩;have h1:(strCells l)[j]?=some (.string (bs s)):=by unfold strCells;rw[YeR,hj];rfl
  rw[←htake,Yfg]at h1
  split at h1
  ·rw[YfP];exact Z4q
  ·cases h1
theorem Y3h.or{v:Value}{l:PL}{S T:Nat→Prop}(h:Y3h v l S)(k:Y3h v l T):Y3h v l (fun q=>S q∨T q):=by
 rcases h with h | ⟨b,o,n,c,rfl,hb⟩
 ·exact .inl h
 ·rcases k with k | ⟨b',o',n',c',e,hb'⟩
  ·exact .inl k
  ·cases e
   exact .inr ⟨b,o,n,c,rfl,fun h=>h.elim hb hb'⟩
theorem Z3M{P:Prop}(h:P:=by
 simp only[Ygt,ne_eq]
 exact Z7):P:=h
section
variable {T TG TN:TypeId}{w w':World}{B g gp gn:Nat}{ov rv lv ta ga ua oa:Value}{sn ss:List UInt8}{lim:Int}{c:FCf}{s:FSt}
theorem Yl.gath(h:Yl T TG TN w B g gp gn ov rv lv ta ga ua oa sn ss lim c s)(K:Y1 (fun k=>k=gp) w w')(t:List UInt8)(G:Blk w' gp TG #[.string (bs t),.int .i64 8192])(hl:t.length≤8192)(n1:T≠TG)(n2:TN≠TG)(n3:TG≠78)(n4:TG≠9):
 Yl T TG TN w' B g gp gn ov rv lv ta ga ua oa sn ss lim c {s with text:=t}:=
 ⟨K.blk h.blk (Ym h.blk h.gat n1),G,K.blk h.neg (Ym h.neg h.gat n2),h.hov.kept (h.so.mono fun k hk=> .inr (.inl hk)) K,Y2F K h.hrv (fun q hq e=>by
   have e:q=gp:=e
   subst e
   exact Y41 h.hrv h.gat n3 hq),h.sg,h.so,h.lft.kept K (fun b cs hb e=>by
   have e:b=gp:=e
   subst e
   exact Ym hb h.gat n4.symm rfl),h.gB,h.gpB,h.gnB,hl,h.s0,h.s1,h.c0,h.c1,h.cf⟩
theorem Yl.neg'(h:Yl T TG TN w B g gp gn ov rv lv ta ga ua oa sn ss lim c s)(K:Y1 (SN gn rv) w w')(rv':Value)(r':PL)(N:Blk w' gn TN #[ov,rv'])(hov:PSl w' ov c.own)(hrv:w'.ownsRow B 78 2 rv' r'.length (Y0 r'))(sg:rv'.ownBlock≠some gn)
 (so:Y3h ov c.own (fun k=>k=gn∨rv'.ownBlock=some k)) (n1:T≠TN) (n2:TG≠TN) (n3:T≠78) (n4:TG≠78) (n5:TN≠9):
 Yl T TG TN w' B g gp gn ov rv' lv ta ga ua oa sn ss lim c {s with rc:=r'}:=by
 have q1: ¬SN gn rv g:=fun e=>by
  rcases e with e | e
  ·exact Ym h.blk h.neg n1 e
  ·exact Y41 h.hrv h.blk n3 e
 have q2: ¬SN gn rv gp:=fun e=>by
  rcases e with e | e
  ·exact Ym h.gat h.neg n2 e
  ·exact Y41 h.hrv h.gat n4 e
 refine⟨K.blk h.blk q1,K.blk h.gat q2,N,hov,hrv,sg,(h.so.or so).mono (fun k hk=> ?_),h.lft.kept K (fun b cs hb e=> ?_),h.gB,h.gpB,h.gnB,h.tl,h.s0,h.s1,h.c0,h.c1,h.cf⟩
 ·rcases hk with hk | hk | hk | hk
  ·exact .inl (.inl hk)
  ·exact .inl (.inr (.inl hk))
  ·exact .inr (.inl hk)
  ·exact .inr (.inr hk)
 ·rcases e with e | e
  ·exact Ym hb h.neg n5.symm e
  ·rcases h.hrv.2 with ⟨rfl,_⟩ | ⟨q,cap,cur,rfl,_,hg,_⟩
   ·simp[Value.ownBlock]at e
   ·have hq:q=b:=by simpa[Value.ownBlock]using e
    subst hq
    unfold Blk at hb
    rw[hb]at hg
    simp at hg
end
end
section
open Go.Proofs.Tryz
open Go Go.RowKit
def Y2a(T TG TN:TypeId)(w:World)(B g gp gn:Nat)(ov rv ta ga ua oa:Value)(sn ss:List UInt8)(lim:Int)(c:FCf)(R:FSt×List An)(e:Ending)(w':World):Prop:=
 ∃v rv' lv',e= .returned v∧Y74 w' v R.2∧Yl T TG TN w' B g gp gn ov rv' lv' ta ga ua oa sn ss lim c R.1∧(rv'.ownBlock=rv.ownBlock∨ ∃q,rv'.ownBlock=some q∧w.heap.size≤q)∧Y1 (SF g gp gn rv) w w'
theorem Y1R.all{T TG TN:TypeId}{w w0 w':World}{B g gp gn:Nat}{ov rv rv0 lv ta ga ua oa:Value}{sn ss:List UInt8}{lim:Int}{c:FCf}{R:FSt×List An}{e:Ending}(h:Y1R T TG TN w B g gp gn ov rv lv ta ga ua oa sn ss lim c R e w')
 (K:Y1 (SF g gp gn rv0) w0 w) (hr:rv.ownBlock=rv0.ownBlock∨ ∃q,rv.ownBlock=some q∧w0.heap.size≤q):Y2a T TG TN w0 B g gp gn ov rv0 ta ga ua oa sn ss lim c R e w':=by
 obtain⟨v,he,ha,hf,hk⟩:=h;exact⟨v,rv,lv,he,ha,hf,hr,K.trans hk (fun i hi=> .inl (.inl hi))⟩
theorem Zb{P:Prop}(h:P:=by
 go_enter func66,ntmps66
 go_wp2_with fail
 refine cv.out.mono ?_
 rintro e w2 ⟨rfl,hb2⟩
 have B2:=HB1.out.below hb2
 refine ZW ?_;intro t0 t1 t2 t3 t4 t5
 have s13:=(hb2.cell (p:=⟨g,13,none⟩) Zt).trans s13
 clear B2
 go_wp2_with fail
 go_at_call 68
 refine(cr _ hb2).out.mono ?_
 rintro e w3 ⟨v,rfl,ha,hf,hk⟩
 go_wp2
 go_ret
 exact Y1R.all ⟨_,rfl,ha,hf,hk⟩ (KS _ hb2) (.inl rfl)):P:=h
theorem ZW{P Q:Prop}(k:Q)(h:Q→P:=by
 have t0:=(B2.cell 0).trans (rfl:_=some (Value.int .i64 p.op))
 have t1:=(B2.cell 1).trans (rfl:_=some (Value.bool p.now))
 have t2:=(B2.cell 2).trans (rfl:_=some (Value.int .i64 p.flags))
 have t3:=(B2.cell 3).trans (rfl:_=some (Value.slice va p.vs.length vc))
 have t4:=(B2.cell 4).trans (rfl:_=some (Value.slice aa p.n ac))
 have t5:=(B2.cell 5).trans (rfl:_=some (Value.string (bs p.d)))
 refine fun z_=>?_
 revert t5;revert t4;revert t3;revert t2;revert t1;revert t0
 exact z_):P:=h k
theorem Z30{P Q:Prop}(k:Q)(h:Q→P:=by
 have K1: ∀W,Below W1.heap.size W1 W→Y1 (fun k=>B≤k) w W:=fun W hb=>((Y1.refl _ w).below b1).below hb
 have cv:=hid (Y2z p _ _ W1 (hp W1 (K1 _ (Yea _ _))) (hV.all W1 (K1 _ (Yea _ _))).1 (hV.all W1 (K1 _ (Yea _ _))).2.1 YB)
 obtain⟨f0,f1⟩:=Y5Y hE
 have h64:=bit64 p.flags f0 f1
 refine fun z_=>?_
 revert h64;revert f1;revert f0;revert cv;revert K1
 exact z_):P:=h k
theorem Z3P{P:Prop}(h:P:=by
 simp only[Ygt,ne_eq]
 intro e
 exact ht (by unfold Y26;exact Z7)):P:=h
section
variable {w:World}{B g gp gn:Nat}{ov rv lv ta ga ua oa:Value}{sn ss:List UInt8}{lim:Int}{c:FCf}{s:FSt}
theorem fask_tag(p:PK)(v av:Value)(h:Yl 82 215 127 w B g gp gn ov rv lv ta ga ua oa sn ss lim c s)(hp:Y1Y B w p v av)(hE:Y2L p.op p.now p.flags p.vs p.n p.I p.d=0)(hV:Env B w)(ht:p.v YB≠Y26):
 Calls prog 66 #[.pointer (some ⟨g,0,none⟩),pkV p v av] w fun e w'=>Y2a 82 215 127 w B g gp gn ov rv ta ga ua oa sn ss lim c (Ybl c s p) e w':=by
 refine Z4y ?_;intro hp0;obtain⟨⟨va,vc,rfl⟩,aa,ac,rfl⟩:=hp0.forms;refine Zc ?_;intro W1 hW1 b1 B1;have hgl:=h.blk.lt;refine Z30 ?_;intro K1 cv f0 f1 h64;have hA:Ybl c s p=if p.v YB≠1∨s.left= []∨p.d≠ []∨Y1V p.flags=true then Y34 s p 4 else Y7m s p:=by unfold Ybl;rw[Yei ht]
 rw[hA];have cr:=fun W (hb:Below W1.heap.size W1 W)=>hid (Y1J p _ _ 4 (h.below (b1.trans (hb.mono b1.size))) (hp W (K1 W hb)) hE Z7 Z7 (hV.all W (K1 W hb)).1 (hV.all W (K1 W hb)).2.1)
 have cp:=fun x r hs W (hb:Below W1.heap.size W1 W)=>hid (Y7t p _ _ x r hs (h.below (b1.trans (hb.mono b1.size))) (hp.kept (K1 W hb)) hE (hV.kept (K1 W hb)))
 have KS: ∀W,Below W1.heap.size W1 W→Y1 (SF g gp gn rv) w W:=fun W hb=>((Y1.refl _ w).below b1).below hb
 obtain⟨la,lc,hlv,hlc,_⟩:=h.lft
 have HN:((p.v YB:Int) !=4294967295)=true:=by
  exact Z3P
 refine Zo ?_;intro t0 t1 t2 t3;refine Z1U ?_;intro t4 t5;have G1:=h.blk.below b1;have s13:=(G1.cell 13).trans (rfl:_=some lv);rw[hlv]at s13;have hz1:=b1.size;have hbl1:=B1.lt;unfold pkC at hW1;unfold pkV Y1a at cv cr cp ⊢;have hE1:(⟨#[]⟩:ByteArray)=bs []:=rfl;generalize hmo:Y1V p.flags=mo at *;have HB1:=hid B1;clear hp hp0 hV h K1 hA ht B1 G1 hE hmo;by_cases q1:p.v YB≠1
 ·rw[Yei (.inl q1)];have a1:((p.v YB:Int) !=1)=true:=Z3M;clear q1;exact Zb
 have a1:((p.v YB:Int) !=1)=false:=by rw[Ygk];exact Z7
 by_cases q2:s.left= []
 ·rw[Yei (.inr (.inl q2))];have a2:s.left.length=0:=by rw[q2];rfl
  rw[a2]at s13;clear q1 q2;exact Zb
 have a2:((s.left.length:Int) == 0)=false:=by
  rw[Yen];intro e;exact q2 (YeK Z7)
 by_cases q3:p.d≠ []
 ·rw[Yei (.inr (.inr (.inl q3)))];have a3:p.d.isEmpty=false:=by cases hd:p.d with | nil=>exact absurd hd q3 | cons y l=>rfl
  clear q1 q2 q3;exact Zb
 have a3:p.d.isEmpty=true:=by
  have q3:p.d= []:=Yfa q3;rw[q3];rfl
 by_cases q4:mo=true
 ·rw[Yei (.inr (.inr (.inr q4)))];subst q4;clear q1 q2 q3;exact Zb
 ·rw[Yed (fun e=>by
   rcases e with e | e | e | e
   ·exact q1 e
   ·exact q2 e
   ·exact q3 e
   ·exact q4 e)]
  have q4:mo=false:=by simpa using q4
  subst q4
  obtain⟨x,r,hs⟩: ∃x r,s.left=x :: r:=by
   cases hl:s.left with
   | nil=>exact absurd hl q2
   | cons x r=>exact⟨x,r,rfl⟩
  clear q1 q2 q3;go_enter func66,ntmps66;go_wp2_with fail;refine cv.out.mono ?_;rintro e w2 ⟨rfl,hb2⟩;have B2:=HB1.out.below hb2;refine ZW ?_;intro t0 t1 t2 t3 t4 t5;have s13:=(hb2.cell (p:=⟨g,13,none⟩) Zt).trans s13;clear B2;go_wp2_with fail;go_at_call 114;refine(cp x r hs _ hb2).out.mono ?_;rintro e w3 ⟨lv',v,rfl,ha,hf,hk⟩;go_wp2;go_ret;exact Y1R.all ⟨_,rfl,ha,hf,hk⟩ (KS _ hb2) (.inl rfl)
end
end
section
open Go.Proofs.Tryz
open Go Go.RowKit
def inP(s:FSt)(p:PK):PL:=(Y18 8192 s.text p.d (Y1V p.flags)).2.1
structure AskOk(c:FCf)(s:FSt)(p:PK):Prop where
 rl:s.rc.length≤100000
 ol:c.own.length≤1000000
 sz: ∀k,(c.own.getD k ([],[])).2.length≤100000
 il:(inP s p).length≤60
 of_:PBd (Y19 (inP s p))
 r1:(Y2T c.own (Y19 (inP s p)) s.rc false c.disc).2.length≤1000000
 r2: ∀k,((Y2T c.own (Y19 (inP s p)) s.rc false c.disc).2.getD k ([],[])).2.length≤100000
 o1:(Y2T c.own (Y19 (inP s p)) s.rc false c.disc).1.length≤100000
 se: ∀x∈inP s p,(Y4A c x.2).length≤7000000
 pb:PBd (Y1C c (inP s p) ++ (Y2T c.own (Y19 (inP s p)) s.rc false c.disc).1)
 pl:(Yc (Y1C c (inP s p) ++ (Y2T c.own (Y19 (inP s p)) s.rc false c.disc).1)).1=0→(Y1H (Y1C c (inP s p) ++ (Y2T c.own (Y19 (inP s p)) s.rc false c.disc).1)).length≤1000000
def RAsk(c:FCf)(L:PL)(W:World)(r d i:Value)(wr:World):Prop:=
 ∃ (k:Nat) (rk dk:PL),k≤L.length∧i= .int .i64 (k:Nat)∧rk.length≤k∧dk.length≤k * 7000000∧Hid (Y19 L=rk ++ Y19 (L.drop k))∧Hid (Y1C c L=dk ++ Y1C c (L.drop k))∧
  wr.ownsRow W.heap.size 78 2 r rk.length (Y0 rk)∧wr.ownsRow W.heap.size 78 2 d dk.length (Y0 dk)∧(∀q,r.ownBlock=some q→d.ownBlock≠some q)∧Below W.heap.size W wr
theorem err_ne{w:World}{B gp:Nat}{t:List UInt8}{T:TypeId}(hV: ∀W,Y1 (fun k=>B≤k) w W→Y2e W)(h:Blk w gp T #[.string (bs t),.int .i64 8192])(hB:B≤gp):0≠gp:=by
 intro e;have hk:Y1 (fun k=>B≤k) w (w.setCell ⟨gp,0,none⟩ (.bool true)):=(Y1.refl _ w).set _ _ (.inl hB);have h1:=hV _ hk;unfold Y2e at h1;have e2:(⟨0,0,none⟩:Addr)=⟨gp,0,none⟩:=Yeg (fun b=>(⟨b,0,none⟩:Addr)) e;rw[e2]at h1;have h2:=(h.set 0 (.bool true)).cell 0;rw[h1]at h2;simp at h2
theorem Z2H{P:Prop}(h:P:=by
 go_wp2_with fail
 go_at_call 68
 refine cr.out.mono ?_
 rintro e w5 ⟨v,rfl,ha,hf,hk5⟩
 go_wp2
 go_ret
 rw[HMO.out,HLA.out,HX.out]
 exact Y1R.all ⟨_,rfl,ha,hf,hk5⟩ HK4.out (.inl rfl)):P:=h
section
variable {w:World}{B g gp gn:Nat}{ov rv lv:Value}{sn ss:List UInt8}{lim:Int}{c:FCf}{s:FSt}{us:PL}{ta ga ua oa:Option Addr}{tc gc uc oc:Nat}
theorem fask_txt(p:PK)(v av:Value)(h:Yl 82 215 127 w B g gp gn ov rv lv (.slice ta c.ts.length tc) (.slice ga c.gs.length gc) (.slice ua us.length uc) (.slice oa c.own.length oc) sn ss lim c s)
 (hC:Y4f B w c us sn ss lim (.slice ta c.ts.length tc) (.slice ga c.gs.length gc) (.slice ua us.length uc) (.slice oa c.own.length oc)) (ht:c.ts.length≤2500) (hgs:c.gs.length≤2500) (hO:AskOk c s p)
 (hp:Y1Y B w p v av) (hE:Y2L p.op p.now p.flags p.vs p.n p.I p.d=0) (hV:Env B w) (hn:p.v YB=Y26):
 Calls prog 66 #[.pointer (some ⟨g,0,none⟩),pkV p v av] w fun e w'=>Y2a 82 215 127 w B g gp gn ov rv (.slice ta c.ts.length tc) (.slice ga c.gs.length gc) (.slice ua us.length uc) (.slice oa c.own.length oc) sn ss lim c (Ybl c s p) e w':=by
 have hmx:prog.follows .mixedOrders=true:=by kernel_rfl
 refine Z4y ?_;intro hp0;have hdl:=(Y4k hE).2;obtain⟨⟨va,vc,rfl⟩,aa,ac,rfl⟩:=hp0.forms;refine Zc ?_;intro W1 hW1 b1 B1;have hgl:=h.blk.lt;have hgpl:=h.gat.lt;have hgB:=h.gB;refine Z30 ?_;intro K1 cv f0 f1 h64;have h128:=bit128 p.flags f0 f1;have hA:Ybl c s p=Y5T c s p (Y1V p.flags) (Y6G p.flags):=by unfold Ybl;rw[Yed (fun e=>e hn)]
 rw[hA];have HN:((p.v YB:Int) !=4294967295)=false:=by rw[hn];rfl
 have t2:=(B1.cell 2).trans (rfl:_=some (Value.int .i64 p.flags));have t0:=(B1.cell 0).trans (rfl:_=some (Value.int .i64 p.op));have t1:=(B1.cell 1).trans (rfl:_=some (Value.bool p.now));have t3:=(B1.cell 3).trans (rfl:_=some (Value.slice va p.vs.length vc));refine Z1U ?_;intro t4 t5;have hbl1:=B1.lt;have hgne:=err_ne (fun W hk=>(hV.all W hk).2.2.2) h.gat h.gpB;have hE1:(⟨#[]⟩:ByteArray)=bs []:=rfl
 obtain⟨mo,hmo⟩: ∃mo,Y1V p.flags=mo:=⟨_,rfl⟩;obtain⟨la,hla⟩: ∃la,Y6G p.flags=la:=⟨_,rfl⟩;have hI:inP s p=(Y18 8192 s.text p.d mo).2.1:=by unfold inP;rw[hmo]
 rw[hmo]at h64;rw[hla]at h128;have hgl2:=Yb9 8192 s.text p.d mo;have HMO:=hid hmo;have HLA:=hid hla;have HB1:=hid B1;have HF:=hid h;have HP:=hid hp;have HV:=hid hV;have HCC:=hid hC;have HE:=hid hE;unfold pkC at hW1;unfold pkV Y1a at cv ⊢;clear hp hp0 hV h hA B1 hmo hla hC hE hn;go_enter func66,ntmps66;go_wp2_with fail;refine cv.out.mono ?_;rintro e w2 ⟨rfl,hb2⟩;have B2:=HB1.out.below hb2
 have G2:=HF.out.blk.below (b1.trans (hb2.mono b1.size));have s13:=(G2.cell 13).trans (rfl:_=some lv);have f13:=G2.free 13;obtain⟨W3,hW3⟩: ∃W3,w2.setCell ⟨g,13,none⟩ (.slice none 0 0)=W3:=⟨_,rfl⟩;have G3:Blk W3 g 82 (Y14 (.pointer (some ⟨gn,0,none⟩)) (.slice ta c.ts.length tc) (.slice ga c.gs.length gc) (.slice ua us.length uc) (.slice oa c.own.length oc) sn ss lim c.name c.disc s.stat s.cmd (.pointer (some ⟨gp,0,none⟩)) (.slice none 0 0) s.closed):=by rw[←hW3];exact G2.set 13 _
 have b2:=b1.trans (hb2.mono b1.size);have K3:Y1 (fun k=>k=g) w W3:=by rw[←hW3];exact((Y1.refl _ w).below b2).set _ _ (.inl rfl)
 have F3:=HF.out.own K3 s.stat s.cmd (.slice none 0 0) [] s.closed G3 (Y2p.nil _ _) HF.out.s0 HF.out.s1 HF.out.c0 HF.out.c1 Z16 Z16 Z16;have B3:Blk W3 w.heap.size 63 (pkC p (.slice va p.vs.length vc) (.slice aa p.n ac)):=by rw[←hW3];exact Y1k B2 13 _ Z7
 have F3d:Yl 82 215 127 W3.drew B g gp gn ov rv (.slice none 0 0) (.slice ta c.ts.length tc) (.slice ga c.gs.length gc) (.slice ua us.length uc) (.slice oa c.own.length oc) sn ss lim c {s with stat:=s.stat,cmd:=s.cmd,left:= [],closed:=s.closed}:=F3.below (Yea _ _).drew;have V3:=HV.out.all W3.drew (Y3N (K3.drew) hgB);have cA:=hid (gAdd_any gp 8192 s.text p.d mo W3.drew F3d.gat Z7 F3d.tl Z7 V3.2.2.2 hgne)
 have hne:g≠gp:=Ym F3.blk F3.gat Z16;have u12:W3.drew.cell? ⟨g,12,none⟩=some (.pointer (some ⟨gp,0,none⟩)):=(F3d.blk.cell 12).trans rfl;have u5:W3.drew.cell? ⟨w.heap.size,5,none⟩=some (.string (bs p.d)):=(B3.cell 5).trans rfl;have hz3:W3.heap.size=w2.heap.size:=by rw[←hW3];exact Z3j
 have hbl3:=B3.lt
 have hS4: ∀w4,W3.drew.grownBy w4 (some gp)→w4.cell? ⟨g,12,none⟩=some (.pointer (some ⟨gp,0,none⟩))∧w4.cell? ⟨w.heap.size,5,none⟩=some (.string (bs p.d)):=fun w4 hO =>
  ⟨(Y1i hO (p:=⟨g,12,none⟩) (show g<W3.heap.size from Z7) hne).trans u12,(Y1i hO (p:=⟨w.heap.size,5,none⟩) hbl3 (show w.heap.size≠gp from Z7)).trans u5⟩
 unfold Ybu at cA;have HF3:=hid F3;have HK3:=hid K3;have HB3:=hid B3;clear B2 G2 G3 F3 B3 K3 F3d V3;go_upto_region 8 with fail;go_region_held3 (fun w'=>w'.cell? ⟨g,12,none⟩=some (.pointer (some ⟨gp,0,none⟩))∧w'.cell? ⟨w.heap.size,5,none⟩=some (.string (bs p.d)))
  (first | exact⟨u12,u5⟩ | assumption | exact hS4 _ (by assumption))
  (first | (go_at_call 115;refine cA.out.mono ?_;rintro e w4 ⟨⟨v4,er4,rfl,her4,hps4⟩,hG4,hO4⟩))
 have K4g:Y1 (fun k=>k=gp) W3 w4:=(Y1.refl _ W3).drew.only hO4 (fun q hq=> .inl (Yey hq).symm);have F4:=HF3.out.gath K4g _ hG4 hgl2 Z16 Z16 Z16 Z16;have K4:Y1 (SF g gp gn rv) w w4:=(HK3.out.mono (fun k hk=> .inl hk)).trans K4g (fun i hi=> .inl (.inr (.inl hi)));have K4B:Y1 (fun k=>B≤k) w w4:=(Y3N HK3.out hgB).trans K4g (fun i hi=> .inl (by have hi:i=gp:=hi;have:=HF.out.gpB;exact Z7))
 have B4:=K4g.blk HB3.out (show ¬w.heap.size=gp from Z7);have hsz4:W3.heap.size≤w4.heap.size:=hO4.size;have t0:=(B4.cell 0).trans (rfl:_=some (Value.int .i64 p.op));have t1:=(B4.cell 1).trans (rfl:_=some (Value.bool p.now));have t2:=(B4.cell 2).trans (rfl:_=some (Value.int .i64 p.flags));have t3:=(B4.cell 3).trans (rfl:_=some (Value.slice va p.vs.length vc));have t4:=(B4.cell 4).trans (rfl:_=some (Value.slice aa p.n ac))
 have t5:=(B4.cell 5).trans (rfl:_=some (Value.string (bs p.d)));have V4:=HV.out.kept K4B;have P4:=HP.out.kept K4B;have C4:=HCC.out.kept K4B;have cr:=hid (Y1J p _ _ 4 F4 (P4 _ (Y1.refl _ _)) HE.out Z7 Z7 (V4.all _ (Y1.refl _ _)).1 (V4.all _ (Y1.refl _ _)).2.1);have HF4:=hid F4;have HK4:=hid K4;have HV4:=hid V4;have HP4:=hid P4;have HC4:=hid C4;have HB4:=hid B4;unfold pkV Y1a at cr
 have HI:=hid hI;clear hI cA hS4 u12 u5 HF3 HK3 HB3 F4 K4 K4B K4g hG4 hO4 V4 P4 C4 B4 HV HP HCC;by_cases hk:(Y18 8192 s.text p.d mo).2.2.1=0
 ·obtain rfl:=Y2A her4 hk;by_cases hml:mo=la
  ·have hq:(mo == la)=true:=by rw[hml];exact Z2t
   have hTx:Y5T c s p mo la=Y34 {s with left:= [],text:=(Y18 8192 s.text p.d mo).1} p 4:=by unfold Y5T;rw[Yei (.inr hml)]
   have HX:=hid hTx;clear hk hTx hml her4;exact Z2H
  ·have hq:(mo == la)=false:=by rw[Yen];exact hml
   have hT1: ∀X Y:FSt×List An,(if(Y18 8192 s.text p.d mo).2.2.1≠0∨mo=la then X else Y)=Y:=fun X Y=>Yed (fun e=>e.elim (fun h=>h hk) hml)
   have HT1:=hid hT1;clear hk hml hT1 her4
   cases mo with
   | true =>
    have hTx:Y5T c s p true la=({s with left:= [],text:=(Y18 8192 s.text p.d true).1,stat:=up1 s.stat},[⟨36,0,Y5X (p.v Ye) Y26 s.stat s.cmd,[]⟩]):=by unfold Y5T;rw[HT1.out,Yei rfl]
    have HX:=hid hTx;have hitt:=Y4Z HE.out;have HM:=hid (Yb1 s.stat s.cmd HF.out.s0 HF.out.s1 HF.out.c0 HF.out.c1 0 (.inl rfl) (p.v Ye) 4294967295 hitt Z7);clear hTx HT1 cr hps4;obtain⟨W5,hW5⟩: ∃W5,w4.alloc (.cells #[.string ⟨#[73,84,84]⟩,.string ⟨#[84,84,84]⟩] 9)=W5:=⟨_,rfl⟩;have k5:Below w4.heap.size w4 W5:=by rw[←hW5];exact Ze
    have N5:W5.ownsRow w4.heap.size 9 1 (.slice (some ⟨w4.heap.size,0,none⟩) 2 2) 2 (strCells [Ye,YB]):=by rw[←hW5];exact Y2l (Ye9 _) _ _ 2 rfl Z7
    have V5:=HV4.out.all W5 (((Y1.refl _ w4).below k5));have V4:=HV4.out.all w4 (Y1.refl _ w4);have cv:=hid (Y2z p _ _ W5 (HP4.out W5 ((Y1.refl _ w4).below k5)) V5.1 V5.2.1 Ye);have B5:=HB4.out.below k5;have t0:=(B5.cell 0).trans (rfl:_=some (Value.int .i64 p.op));have t1:=(B5.cell 1).trans (rfl:_=some (Value.bool p.now));have t2:=(B5.cell 2).trans (rfl:_=some (Value.int .i64 p.flags))
    have t3:=(B5.cell 3).trans (rfl:_=some (Value.slice va p.vs.length vc));have t4:=(B5.cell 4).trans (rfl:_=some (Value.slice aa p.n ac));have t5:=(B5.cell 5).trans (rfl:_=some (Value.string (bs p.d)));unfold pkV Y1a at cv;generalize hX:p.v Ye=X at *;clear B5 V5;go_wp2_with fail;go_at_call 69;refine cv.out.mono ?_;rintro e w6 ⟨rfl,hb6⟩;have N6:=Y2 N5 hb6;have b6:=k5.trans (hb6.mono k5.size)
    have z6:=b6.size;have z5:=k5.size;have hl5:w4.heap.size<W5.heap.size:=by rw[←hW5];exact Z2t
    have hl6:=hb6.size;have k7:Below w6.heap.size w6 (w6.alloc (.cells #[.int .u64 (X:Int),.int .u64 4294967295] 106)):=(Yea _ _).alloc (Ye9 _) _;have N7:=Y2 N6 k7;have V7:(w6.alloc (.cells #[.int .u64 (X:Int),.int .u64 4294967295] 106)).ownsRow w4.heap.size 106 1 (.slice (some ⟨w6.heap.size,0,none⟩) 2 2) 2 (Yb [X,4294967295]):=Y2l Z7 _ _ 2 rfl Z7;have b7:=b6.trans (k7.mono b6.size)
    have cm:=hid (Y6L 36 0 [] _ _ [Ye,YB] [X,4294967295] (Y5X X 4294967295 s.stat s.cmd) _ HF4.out b7 HM.out Z7 Z7 Z7 Z7 Z2t Z2t Zd N7 V7 (.inr Z4u) V4.1 V4.2.1);unfold Y1a at cm;clear N5 N6 N7 V7 b6 b7 k7 k5 cv hb6 V4;go_wp2_with fail;go_at_call 113;refine cm.out.mono ?_;rintro e w8 ⟨v,rfl,hsl,hK,hF⟩;obtain⟨sa,sc,rfl,-⟩: ∃sa sc,v= .slice sa (Y5X X 4294967295 s.stat s.cmd).length sc∧True:=Z14
    have k9:Below w8.heap.size w8 (w8.alloc (.cells #[.int .i64 36,.bool false,.int .i64 0,.slice sa (Y5X X 4294967295 s.stat s.cmd).length sc,.slice none 0 0,.string (bs [])] 63)):=(Yea _ _).alloc (Ye9 _) _;have HA:=hid (Y5y (op:=36) (flags:=0) (d:= []) hsl);have HFF:=hid (hF.below k9);have HK:=hid (hK.below k9);clear hsl hK hF k9 cm;go_wp2;go_ret;rw[HMO.out,HLA.out,HX.out];exact Y1R.all ⟨_,rfl,HA.out,HFF.out,HK.out⟩ HK4.out (.inl rfl)
   | false =>
    have hIL:=HI.out;obtain⟨L,hL⟩: ∃L,(Y18 8192 s.text p.d false).2.1=L:=⟨_,rfl⟩;rw[hL]at hIL hps4;have O:=hO;have hil:=hO.il;have hse:=hO.se;rw[hIL]at hil hse;have HSE:=hid hse;have HL:=hid hL;have HIL:=hid hIL;have hKS:(⟨#[83,101,110,100,84,97,114,103,101,116,115]⟩:ByteArray)=bs Y1s:=rfl;have HPS:=hid hps4;have cS:=fun(x:List UInt8) (W:World) (hb:Below w4.heap.size w4 W)=>hid (YdF x (HF4.out.below hb) (HC4.out W ((Y1.refl _ w4).below hb)) ht hgs (HV4.out.all W ((Y1.refl _ w4).below hb)).2.1)
    unfold Y71 at cS;obtain⟨sa,sc,rfl,_,_⟩:=hps4;clear hL hIL hse hO cr;go_wp2_with fail;go_loopw [9,10,86] (fun r d i wr=>RAsk c L w4 r d i wr) (fun _ _ i _=>L.length - (intOf i).toNat)
    case atStart=>exact⟨0,[],[],by omega,rfl,by simp,by simp,hid Z2t,hid Z2t,YeD _ _ _ _,YeD _ _ _ _,fun q hq=>by simp[Value.ownBlock]at hq,Yea _ _⟩
    case round =>
     obtain⟨k,rk,dk,hk,rfl,hrk,hdk,Hr,Hd,hro,hdo,hap,hb⟩:=hrel;have hB:=hb.size;by_cases hlt:k<L.length
     ·obtain⟨_,b,o,cc,hveq,hbl,hcell⟩:=(HPS.out.below hb).open_.resolve_left Z1F
      cases hveq
      obtain⟨g0,g1⟩:=hcell k hlt;have e1:=Y7i L k hlt;have e2:=Y7f c L k hlt;have hx7:=HSE.out (L.getD k ([],[])) (by rw[List.getD,Yec hlt];exact YfD hlt);clear hcell;generalize L.getD k ([],[])=x at *;obtain⟨x1,x2⟩:=x;simp only at g0 g1 e1 e2 hx7;have hA6:=(Yea wr.heap.size wr).alloc (Ye9 _) (.cells #[.string (bs x1),.string (bs x2)] 78)
      have b6:=hb.trans (hA6.mono hB);by_cases hq2:x1=Y1s
      ·have hxe:(x1 == Y1s)=true:=by rw[hq2];exact Z2t
       have hxn:(x1 !=Y1s)=false:=by rw[hq2];exact Z2t
       rw[Yei hq2]at e1 e2;have Hr':=hid (show Y19 L=rk ++ Y19 (L.drop (k+1)) by rw[Hr.out,e1]);have Hd':=hid (show Y1C c L=(dk ++ Y4A c x2) ++ Y1C c (L.drop (k+1)) by rw[Hd.out,e2,Yfx]);have cs:=cS x2 _ b6;have hro6:=Y2 hro hA6;have hdo6:=Y2 hdo hA6;clear e1 e2 Hr Hd hq2;generalize hSS:Y4A c x2=SS at *;clear hSS;go_wp2_with fail;go_at_call 116;refine cs.out.mono ?_
       rintro e w7 ⟨⟨v7,rfl,hown7⟩,hb7⟩;have b7:=b6.trans (hb7.mono b6.size);have hro7:=Y2 hro6 hb7;have hdo7:=Y2 hdo6 hb7;have hB7:=b7.size;go_wp2_with (at_builtin;refine Y2m rfl (.tmp 97) (.tmp 101) 27 rfl w4.heap.size 78 (.agg #[.string ⟨#[]⟩,.string ⟨#[]⟩]) 2 32 underlying27 Yv rfl Z16 _ dk.length (Y0 dk) rfl hdo7 _ v7 SS.length (Y0 SS) rfl hown7 (Y1r SS) ZS Z7 Z7 ?_;intro v' w8 hown8 hgrow8 hat8)
       have b8:Below w4.heap.size w4 w8:=Yp b7 hdo7 hgrow8 Z7;have hro8:=Y24 hro7 hgrow8 (fun q hq e=>hap q hq e)
       have hap8: ∀q,u9.ownBlock=some q→v'.ownBlock≠some q:=fun q hq=>by
        rcases hat8 with h | h
        ·rw[h];exact hap q hq
        ·rw[h];intro e;have:=(hro7.lt q hq).2;have e:=Yey e;omega
       go_roundw
       case rel=>exact⟨k+1,rk,dk ++ SS,by omega,by go_num,by omega,by rw[Yem];omega,Hr',Hd',hro8,by rw[Yem,YE];exact hown8,hap8,b8⟩
       case measure=>exact Zw
      ·have hxe:(x1 == Y1s)=false:=by rw[Yen];exact hq2
       have hxn:(x1 !=Y1s)=true:=by simp[hq2]
       rw[Yed hq2]at e1 e2;have Hr':=hid (show Y19 L=(rk ++ [(x1,x2)]) ++ Y19 (L.drop (k+1)) by rw[Hr.out,e1,Yfx];rfl);have Hd':=hid (show Y1C c L=dk ++ Y1C c (L.drop (k+1)) by rw[Hd.out,e2]);have hA7:=(Yea (wr.alloc (.cells #[.string (bs x1),.string (bs x2)] 78)).heap.size (wr.alloc (.cells #[.string (bs x1),.string (bs x2)] 78))).alloc (Ye9 _) (.cells #[.string (bs x1),.string (bs x2)] 78)
       have b7:=b6.trans (hA7.mono b6.size);have hro7:=Y2 (Y2 hro hA6) hA7;have hdo7:=Y2 (Y2 hdo hA6) hA7;clear e1 e2 Hr Hd hq2 hA7;go_wp2_with (at_builtin;refine YY rfl (.tmp 93) (.tmp 95) 27 rfl w4.heap.size 78 (.agg #[.string ⟨#[]⟩,.string ⟨#[]⟩]) 2 32 underlying27 Yv rfl Z16 _ rk.length (Y0 rk) rfl hro7 ⟨wr.heap.size+1,0,none⟩ 1 1 (Y0 [(x1,x2)]) rfl rfl (Y60 (W:=wr.alloc (.cells #[.string (bs x1),.string (bs x2)] 78)) Z2t (Y0 [(x1,x2)]) 78) (Y1r _) ZS Z7 Zd ?_;intro v' w8 hown8 hgrow8 hat8)
       have b8:Below w4.heap.size w4 w8:=Yp b7 hro7 hgrow8 Zd;have hdo8:=Y24 hdo7 hgrow8 (fun q hq e=>hap q e hq)
       have hap8: ∀q,v'.ownBlock=some q→u10.ownBlock≠some q:=fun q hq=>by
        rcases hat8 with h | h
        ·rw[h]at hq;exact hap q hq
        ·rw[h]at hq;intro e;have:=(hdo7.lt q e).2;have hq:=Yey hq;omega
       go_roundw
       case rel=>exact⟨k+1,rk ++ [(x1,x2)],dk,by omega,by go_num,by rw[Yem,Yfp];omega,Yeu hdk (Nat.mul_le_mul_right _ (Nat.le_succ _)),Hr',Hd',by rw[Yem,Yfp,YE];exact hown8,hdo8,hap8,b8⟩
       case measure=>exact Zw
     ·obtain rfl:k=L.length:=Z7;have hd0:L.drop L.length= []:=YeX;have er:Y19 L=rk:=by have:=Hr.out;rw[hd0]at this;simpa[Y19]using this
      have ed:Y1C c L=dk:=by have:=Hd.out;rw[hd0]at this;simpa[Y1C]using this
      have q64:L.length * 7000000≤420000000:=Z7;have F5:=HF4.out.below hb;have bd:=hb.drew;have F5d:=HF4.out.below bd;have hrod:=Y2 hro (Yea wr.heap.size wr).drew;have hdod:=Y2 hdo (Yea wr.heap.size wr).drew;have hgn4:=HF4.out.neg.lt;have hg4:=HF4.out.blk.lt;have hgB4:=HF4.out.gB
      have hSNlt: ∀q,SN gn rv q→q<w4.heap.size∧B≤q:=fun q hq=>by
       rcases hq with rfl | hq
       ·exact⟨hgn4,HF4.out.gnB⟩
       ·exact⟨(HF4.out.hrv.lt q hq).2,(HF4.out.hrv.lt q hq).1⟩
      have hfar:Y3h u9 rk (SN gn rv):=by
       rcases hrod.2 with ⟨_,h0⟩ | ⟨q,cap,cur,hv,hbq,_⟩
       ·exact .inl h0
       ·exact .inr ⟨q,0,_,_,hv,fun hs=>by have:=(hSNlt q hs).1;omega⟩
      have K5B:Y1 (fun k=>B≤k) w4 wr.drew:=(Y1.refl _ w4).below bd;have V5:=HV4.out.all _ K5B;have hIL:=HIL.out;have hOf:=O.of_;rw[hIL,er]at hOf
      have hcap: ∀a c,u9= .slice a rk.length c→rk.length≤c:=fun a c e=>by
       obtain⟨A,cap,hv,hl⟩:=Y5N hrod;rw[e]at hv
       cases hv
       exact hl
      have cN:=hid (Y6B c.own rk s.rc false c.disc B gn ov rv u9 wr.drew ⟨F5d.neg,F5d.hov,F5d.hrv,F5d.sg,F5d.so.mono (fun k hk=>by
       rcases hk with hk | hk
       ·exact .inr (.inr (.inl hk))
       ·exact .inr (.inr (.inr hk)))⟩ (show B≤wr.heap.size by omega) (Yx hrod) hfar hOf (fun h0=>⟨(Y1G h0).1,fun k=>by have:=(Y1G h0).2 k;omega⟩) hcap (by have:=O.rl;omega) O.ol O.sz V5.1 V5.2.2.1 V5.2.1
       (fun w' hk=>by
         have:=HV4.out.all w' (K5B.trans hk (fun i hi=> .inl (hSNlt i hi).2))
         exact⟨this.1,this.2.2.1,this.2.1⟩))
      unfold Y8F at cN;have u0:wr.drew.cell? ⟨g,0,none⟩=some (.pointer (some ⟨gn,0,none⟩)):=(F5d.blk.cell 0).trans rfl;have u9c:wr.drew.cell? ⟨g,9,none⟩=some (.bool c.disc):=(F5d.blk.cell 9).trans rfl
      have hgSN: ¬SN gn rv g:=fun e=>by
       rcases e with e | e
       ·exact Ym F5.blk F5.neg Z16 e
       ·exact Y41 F5.hrv F5.blk Z16 e
      have hS6: ∀w6,Y1 (SN gn rv) wr.drew w6→w6.cell? ⟨g,0,none⟩=some (.pointer (some ⟨gn,0,none⟩))∧w6.cell? ⟨g,9,none⟩=some (.bool c.disc):=fun w6 hk=>⟨hk.cell u0 hgSN,hk.cell u9c hgSN⟩
      have HF5:=hid F5;clear F5 F5d V5 hfar hOf hcap Hr Hd hd0 hrod cS;go_upto_region 21 with fail;go_region_held3 (fun w'=>w'.cell? ⟨g,0,none⟩=some (.pointer (some ⟨gn,0,none⟩))∧w'.cell? ⟨g,9,none⟩=some (.bool c.disc))
       (first | exact⟨u0,u9c⟩ | assumption | exact hS6 _ (by assumption))
       (first | (go_at_call 13;refine cN.out.mono ?_;rintro e w6 ⟨⟨v6,er6,rv6,rfl,her6,hov6,hN6,hrv6⟩,hK6⟩))
      have hdk2:dk.length≤420000000:=Yeu hdk Z7;have K6:Y1 (SN gn rv) wr w6:=(Y1.refl _ wr).drew.trans hK6 (fun i hi=> .inl hi);have F6:=HF5.out.neg' K6 rv6 _ hN6.blk hN6.hov hN6.hrv hN6.sg hN6.so Z16 Z16 Z16 Z16 Z16;have K6w:Y1 (SF g gp gn rv) w w6:=(HK4.out.below hb).trans K6 (fun i hi=> .inl (hi.elim (fun h=> .inr (.inr (.inl h))) (fun h=> .inr (.inr (.inr h)))));have hw4:=HK4.out.size
      have hrw:rv6.ownBlock=rv.ownBlock∨ ∃q,rv6.ownBlock=some q∧w.heap.size≤q:=by
       rcases hrv6 with h1 | ⟨q,h1,h2⟩
       ·exact .inl h1
       ·exact .inr ⟨q,h1,by have h2:wr.heap.size≤q:=h2;omega⟩
      have K6B:Y1 (fun k=>B≤k) w4 w6:=K5B.trans hK6 (fun i hi=> .inl (hSNlt i hi).2)
      have B6:Blk w6 w.heap.size 63 (pkC p (.slice va p.vs.length vc) (.slice aa p.n ac)):=K6.blk (HB4.out.below hb) (fun e=>by
       rcases e with e | e
       ·have:=HF.out.neg.lt;omega
       ·have:=(HF.out.hrv.lt _ e).2;omega)
      have t0:=(B6.cell 0).trans (rfl:_=some (Value.int .i64 p.op));have t1:=(B6.cell 1).trans (rfl:_=some (Value.bool p.now));have t2:=(B6.cell 2).trans (rfl:_=some (Value.int .i64 p.flags));have t3:=(B6.cell 3).trans (rfl:_=some (Value.slice va p.vs.length vc));have t4:=(B6.cell 4).trans (rfl:_=some (Value.slice aa p.n ac));have t5:=(B6.cell 5).trans (rfl:_=some (Value.string (bs p.d)));have er2:Y19 (Y18 8192 s.text p.d false).2.1=rk:=by rw[HL.out];exact er
      have ed2:Y1C c (Y18 8192 s.text p.d false).2.1=dk:=by rw[HL.out];exact ed
      by_cases hof:(Y84 rk s.rc false).1=0
      ·obtain rfl:=Y2A her6 hof;have hOpb:=O.pb;have hOpl:=O.pl;have hOo1:=O.o1;have hOr1:=O.r1;have hOr2:=O.r2;have hIL:=HIL.out;rw[hIL,er]at hOo1 hOr1 hOr2;rw[hIL,er,ed]at hOpb hOpl;have hTx0:Y5T c s p false la=if(Yc (dk ++ (Y2T c.own rk s.rc false c.disc).1)).1≠0 then Y34 {s with left:= [],text:=(Y18 8192 s.text p.d false).1,rc:=(Y2T c.own rk s.rc false c.disc).2} p 4 else
        Y7m {s with left:=Y2f (Y1H (dk ++ (Y2T c.own rk s.rc false c.disc).1)) (Y1N (Y2T c.own rk s.rc false c.disc).2).toNat,text:=(Y18 8192 s.text p.d false).1,rc:=(Y2T c.own rk s.rc false c.disc).2} p:=by
        unfold Y5T;rw[HT1.out,Yed Z2t,er2,ed2,Yed (fun e=>e hof)]
       generalize Y2T c.own rk s.rc false c.disc=OU at *;obtain⟨OL,OR⟩:=OU;simp only at *;have hdo6:=Y2F hK6 hdod (fun q hq e=>by have h1:=(hdo.lt q hq).1;have h2:=(hSNlt q e).1;exact Z7);have HTX0:=hid hTx0;have HR2:=hid hOr2;have hz6:=hK6.size;have hz6':wr.heap.size≤w6.heap.size:=hz6;clear hTx0 hof her6 u0 u9c hS6 hOr2;go_wp2_with (at_builtin;refine Y2m rfl (.tmp 123) (.tmp 124) 27 rfl w4.heap.size 78 (.agg #[.string ⟨#[]⟩,.string ⟨#[]⟩]) 2 32 underlying27 Yv rfl Z16 _ dk.length (Y0 dk) rfl hdo6 _ v6 OL.length (Y0 OL) rfl hov6 (Y1r OL) ZS Z7 Z7 ?_;intro v7 w7 hown7 hgrow7 hat7)
       have hu10: ∀q,u10.ownBlock=some q→w4.heap.size≤q:=fun q hq=>(hdo.lt q hq).1
       have K7:Y1 (fun k=>u10.ownBlock=some k) w6 w7:=(Y1.refl _ w6).only hgrow7 (fun q hq=> .inl hq)
       have F7:=F6.kept K7 (fun e=>by have:=hu10 _ e;omega) (fun e=>by have:=hu10 _ e;have:=HF4.out.gat.lt;omega) (fun e=>by have:=hu10 _ e;omega) (fun q hq e=>by
        have h1:=(hdo.lt q e).2;rcases hrv6 with h2 | ⟨q2,h2,h3⟩
        ·have h4:=(HF4.out.hrv.lt q (h2 ▸hq)).2;have h5:=hu10 q e;omega
        ·rw[h2]at hq;have h4:=Yey hq;have h3:wr.heap.size≤q2:=h3
         omega) (Y3h.new HF4.out.hov (fun k hk=>hu10 k hk)) (fun b cs hb e=>Y6y hdo6 hb (by decide) e)
       have K7w:Y1 (SF g gp gn rv) w w7:=K6w.trans K7 (fun i hi=> .inr (by have:=hu10 i hi;exact Z7));have K7B:Y1 (fun k=>B≤k) w4 w7:=K6B.trans K7 (fun i hi=> .inl (by have:=hu10 i hi;exact Z7));have B7:=K7.blk B6 (fun e=>by have:=hu10 _ e;exact Z7);rw[←Yem,←YE]at hown7;have cP:=hid (Yd4 v7 (dk ++ OL) w7 (Yx hown7) hOpb);unfold Y5B at cP;have HF7:=hid F7
       have HK7:=hid K7w;have HB7:=hid B7;have HKB7:=hid K7B;have V7:=hid (HV4.out.kept K7B);have P7:=hid (HP4.out.kept K7B);clear F7 K7w B7 K7B F6 K6 K6w K6B B6 hN6 hK6 hov6 hdo6 hOpb hgrow7 hown7 hat7 K7 cN K5B hOo1;go_wp2_with fail;go_at_call 117;refine cP.out.mono ?_;rintro e w8 ⟨⟨er8,rfl,her8⟩,hb8⟩;have F8:=HF7.out.below hb8;have K8w:=HK7.out.below hb8;have V8:=V7.out.kept ((Y1.refl _ w7).below hb8)
       have P8:=P7.out.kept ((Y1.refl _ w7).below hb8);have B8:=HB7.out.below hb8;have t0:=(B8.cell 0).trans (rfl:_=some (Value.int .i64 p.op));have t1:=(B8.cell 1).trans (rfl:_=some (Value.bool p.now));have t2:=(B8.cell 2).trans (rfl:_=some (Value.int .i64 p.flags));have t3:=(B8.cell 3).trans (rfl:_=some (Value.slice va p.vs.length vc));have t4:=(B8.cell 4).trans (rfl:_=some (Value.slice aa p.n ac))
       have t5:=(B8.cell 5).trans (rfl:_=some (Value.string (bs p.d)));by_cases hpr:(Yc (dk ++ OL)).1=0
       ·obtain rfl:=Y2A her8 hpr;have hpl:=hOpl hpr;rw[Yei hpr];have hTx:Y5T c s p false la=Y7m {s with left:=Y2f (Y1H (dk ++ OL)) (Y1N OR).toNat,text:=(Y18 8192 s.text p.d false).1,rc:=OR} p:=by rw[HTX0.out,Yed (fun e=>e hpr)]
        have HX:=hid hTx;generalize Y1H (dk ++ OL)=TB at *;have hM:=Y3C OR;have V8r:=V8.all _ (Y1.refl _ w8);have cm:=hid (Y9k F8 hOr1 HR2.out V8r.1 V8r.2.2.1 V8r.2.1);obtain⟨m,hm⟩: ∃m:Nat,Y1N OR=(m:Int):=⟨(Y1N OR).toNat,by omega⟩;rw[hm]at HX hM;simp only[hm]at cm;rw[show((m:Nat):Int).toNat=m from YfL m]at HX;have cs:=fun W=>hid (Yc7 TB m W Z7 Z7 Z7)
        have HF8:=hid F8;have HK8:=hid K8w;have HV8:=hid V8;have HP8:=hid P8;have HB8:=hid B8;clear hpr hTx hOpl her8 F8 K8w V8 P8 B8 V8r hm;go_wp2_with fail;go_at_call 112;refine cm.out.mono ?_;rintro e w9 ⟨rfl,hb9⟩;go_wp2_with fail;go_at_call 118;refine(cs _).out.mono ?_;rintro e w10 ⟨⟨v10,rfl,hown10⟩,hb10⟩;have b10:=hb9.trans (hb10.mono hb9.size);have F10:=HF8.out.below b10;have B10:=HB8.out.below b10
        have K10:Y1 (fun k=>B≤k) w8 w10:=(Y1.refl _ w8).below b10;have s13:=(F10.blk.cell 13).trans (rfl:_=some (Value.slice none 0 0));have f13:=F10.blk.free 13;obtain⟨A10,c10,rfl⟩:=Y1I hown10;obtain⟨W11,hW11⟩: ∃W11,w10.setCell ⟨g,13,none⟩ (.slice A10 (YI m TB) c10)=W11:=⟨_,rfl⟩;have K11:Y1 (fun k=>k=g) w10 W11:=by rw[←hW11];exact(Y1.refl _ w10).set _ _ (.inl rfl)
        have G11:=F10.blk.set 13 (.slice A10 (YI m TB) c10);rw[hW11]at G11;have hpn:YI m TB=(Y2f TB m).length:=by unfold Y2f;exact Z2t
        have hpc:Y3Y m TB=strCells (Y2f TB m):=by unfold Y3Y Y2f strCells Y3B;rw[List.map_map];rfl
        have hp0:YI m TB≠0:=by
         unfold YI
         split
         ·omega
         ·rename_i h0
          have h1:m≤TB.length+m - 1:=Z7;have:=Nat.div_pos h1 (by omega:0<m);omega
        rw[hpc]at hown10;have hB9:B≤w9.heap.size:=by have:=hb9.size;have:=HF8.out.blk.lt;exact Z7
        have L11:Y2p W11 B (.slice A10 (YI m TB) c10) (Y2f TB m):=(Yb3 (Y25 hown10 hB9) hpn hp0).kept K11 (fun b cs hb e=>by
         have e:b=g:=e;subst e
         exact Ym hb F10.blk (by decide) rfl)
        have F11:=F10.own K11 s.stat s.cmd (.slice A10 (YI m TB) c10) (Y2f TB m) s.closed G11 L11 F10.s0 F10.s1 F10.c0 F10.c1 Z16 Z16 Z16;have B11:Blk W11 w.heap.size 63 (pkC p (.slice va p.vs.length vc) (.slice aa p.n ac)):=K11.blk B10 (show ¬w.heap.size=g from Z7);have K11B:Y1 (fun k=>B≤k) w8 W11:=K10.trans K11 (fun i hi=> .inl (by have hi:i=g:=hi;exact Z7));have V11:=HV8.out.kept K11B
        have P11:=HP8.out.kept K11B;have K11w:Y1 (SF g gp gn rv) w W11:=(HK8.out.below b10).trans K11 (fun i hi=> .inl (.inl hi));have t0:=(B11.cell 0).trans (rfl:_=some (Value.int .i64 p.op));have t1:=(B11.cell 1).trans (rfl:_=some (Value.bool p.now));have t2:=(B11.cell 2).trans (rfl:_=some (Value.int .i64 p.flags));have t3:=(B11.cell 3).trans (rfl:_=some (Value.slice va p.vs.length vc));have t4:=(B11.cell 4).trans (rfl:_=some (Value.slice aa p.n ac))
        have t5:=(B11.cell 5).trans (rfl:_=some (Value.string (bs p.d)))
        obtain⟨x,r,hxr⟩: ∃x r,Y2f TB m=x :: r:=by
         cases hl:Y2f TB m with
         | nil=>rw[hl]at hpn;exact absurd hpn hp0
         | cons x r=>exact⟨x,r,rfl⟩
        have cp:=hid (Y7t p _ _ x r hxr F11 P11 HE.out V11);unfold pkV Y1a at cp;have HK11:=hid K11w;clear K11 G11 hpn hpc hp0 hown10 L11 F11 B11 K11B V11 P11 K11w F10 B10 K10 hxr hM cs cm hb9 hb10 b10 hB9;go_wp2_with fail;go_at_call 114;refine cp.out.mono ?_;rintro e w12 ⟨lv',v,rfl,ha,hf,hk12⟩;go_wp2;go_ret;rw[HMO.out,HLA.out,HX.out];exact Y1R.all ⟨_,rfl,ha,hf,hk12⟩ HK11.out hrw
       ·obtain⟨T,x,rfl⟩:=Y3D her8 hpr;have hTx:Y5T c s p false la=Y34 {s with left:= [],text:=(Y18 8192 s.text p.d false).1,rc:=OR} p 4:=by rw[HTX0.out,Yei hpr]
        have HX:=hid hTx;have V8r:=V8.all _ (Y1.refl _ w8);have cr:=hid (Y1J p _ _ 4 F8 (P8 _ (Y1.refl _ w8)) HE.out Z7 Z7 V8r.1 V8r.2.1);unfold pkV Y1a at cr;have HK8:=hid K8w;rw[Yed hpr];clear hpr hTx F8 K8w V8 P8 V8r B8 her8 hOpl;go_wp2_with fail;go_at_call 68;refine cr.out.mono ?_;rintro e w9 ⟨v,rfl,ha,hf,hk9⟩;go_wp2;go_ret;rw[HMO.out,HLA.out,HX.out];exact Y1R.all ⟨_,rfl,ha,hf,hk9⟩ HK8.out hrw
      ·obtain⟨T,x,rfl⟩:=Y3D her6 hof;have hsr:(Y2T c.own rk s.rc false c.disc).2=s.rc:=by unfold Y2T;rw[Yed hof]
       rw[hsr]at F6
       have hTx:Y5T c s p false la=Y34 {s with left:= [],text:=(Y18 8192 s.text p.d false).1} p 4:=by
        unfold Y5T;rw[HT1.out,Yed Z2t,er2,Yei hof]
       have HX:=hid hTx;have V6:=HV4.out.all _ K6B;have cr:=hid (Y1J p _ _ 4 F6 (HP4.out _ K6B) HE.out Z7 Z7 V6.1 V6.2.1);unfold pkV Y1a at cr;have HK6:=hid K6w;clear hof hTx F6 K6 K6B K6w B6 V6 hN6 hK6 her6 hsr;go_wp2_with fail;go_at_call 68;refine cr.out.mono ?_;rintro e w7 ⟨v,rfl,ha,hf,hk7⟩;go_wp2;go_ret;rw[HMO.out,HLA.out,HX.out];exact Y1R.all ⟨_,rfl,ha,hf,hk7⟩ HK6.out hrw
 ·obtain⟨T,x,rfl⟩:=Y3D her4 hk;have hTx:Y5T c s p mo la=Y34 {s with left:= [],text:=(Y18 8192 s.text p.d mo).1} p 4:=by unfold Y5T;rw[Yei (.inl hk)]
  have HX:=hid hTx;clear hk hTx;exact Z2H
end
end
section
open Go.Proofs.Tryz
open Go Go.RowKit
def Y29(T TG TN:TypeId)(w:World)(B g gp gn:Nat)(ov rv ta ga ua oa:Value)(sn ss:List UInt8)(lim:Int)(c:FCf)(R:FSt×List An×Nat)(E:Nat→Value)(e:Ending)(w':World):Prop:=
 ∃v rv' lv',e= .returned (.tuple #[v,E R.2.2])∧Y74 w' v R.2.1∧Yl T TG TN w' B g gp gn ov rv' lv' ta ga ua oa sn ss lim c R.1∧(rv'.ownBlock=rv.ownBlock∨ ∃q,rv'.ownBlock=some q∧w.heap.size≤q)∧Y1 (SF g gp gn rv) w w'
def fnV(g K:Nat):Value:= .func (.func K) #[.pointer (some ⟨g,0,none⟩)] #[]
theorem Z5{P Q:Prop}(k:Q)(h:Q→P:=by
 refine Zc ?_;intro W1 hW1 b1 B1
 have hgl:=h.blk.lt
 have hgB:=h.gB
 have z1:W1.heap.size=w.heap.size+1:=Z1J
 refine Z4m ?_;intro K1 V1 hp1 hpd
 have cR:=hid (Y3l p.op p.now p.flags (.slice va p.vs.length vc) p.vs (.slice aa p.n ac) p.n p.I p.d W1 hp1 V1.2.2.2 V1.1 V1.2.1)
 have G1:=h.blk.below b1
 have s14:=(G1.cell 14).trans (rfl:_=some (Value.bool s.closed))
 refine Zo ?_;intro t0 t1 t2 t3
 refine Z1U ?_;intro t4 t5
 unfold pkC at hW1
 unfold Y1a at cR
 have hmm:=@run_makeMap prog
 refine Z32 ?_;intro hmf
 refine fun z_=>?_
 revert hmf;revert hmm;revert cR;revert hW1;revert t5;revert t4;revert t3;revert t2;revert t1;revert t0;revert s14;revert G1;revert hpd;revert hp1;revert V1;revert K1;revert z1;revert hgB;revert hgl;revert B1;revert b1;revert W1
 exact z_):P:=h k
theorem Z2E{P:Prop}(h:P:=by
 rw[hcl]
 exact Z2t):P:=h
theorem Z6{P:Prop}(h:P:=by
 have CDO:=hid cdo
 have hTK:Yu c s p=((doP c s p).1,(doP c s p).2,0):=by
  unfold Yu
  rw[Yed Z2E,Yed (fun e=>e hE),Yed (by omega),Yed Z3i,Yed Z3i]
 have HTK:=hid hTK
 unfold pkV Y1a at CDO ⊢
 simp only[hn]at t1 hW1 cR CDO ⊢
 have HNW:=hid hn
 clear h hp hV hp0 hp1 V1 hpd B1 G1 cdo hTK hop hcl hE hn
 go_enter func17,ntmps17
 go_wp2_with fail
 go_at_call 64
 refine cR.out.mono ?_
 rintro e w2 ⟨rfl,hb2⟩
 obtain⟨W4,W5,W6,m1,m2,m3,hb6,z6,lk⟩:=Y59 w2 (fnV g 65) (fnV g 66) (fnV g 67)
 have lkp:=lk p.op o0 o1
 rw[hlk]at lkp
 unfold fnV at m1 m2 m3 lkp
 clear lk hlk
 refine Z4Y ?_;intro b6 q6 B6 t0
 have t1:=(B6.cell 1).trans (show _=some (Value.bool true) by rw[show(pkC p (.slice va p.vs.length vc) (.slice aa p.n ac))[1]?=some (Value.bool p.now)from rfl,HNW.out])
 refine Z1A ?_;intro t2 t3 t4 t5 F6 s11 K6 hz6 b0_ r0
 have cd:=hid (CDO.out W6 F6 K6)
 have HK6:=hid ((Y1.refl (SF g gp gn rv) w).below b6)
 clear F6 K6 B6 CDO
 go_wp2_with fail
 refine cd.out.mono ?_
 rintro e wz ⟨v,rv',lv',rfl,ha,hf,hr,hk⟩
 go_wp2
 go_ret2
 rw[HTK.out]
 exact⟨_,rv',lv',rfl,ha,hf,(by rcases hr with h1 | ⟨q,h1,h2⟩;exact .inl h1;exact .inr ⟨q,h1,Yeu HK6.out.size h2⟩),HK6.out.trans hk (fun i hi=> .inl hi)⟩):P:=h
theorem Z1d{P:Prop}(h:P:=by
 rw[hop]
 rfl):P:=h
theorem Z1A{P Q:Prop}(k:Q)(h:Q→P:=by
 have t2:=(B6.cell 2).trans (rfl:_=some (Value.int .i64 p.flags))
 have t3:=(B6.cell 3).trans (rfl:_=some (Value.slice va p.vs.length vc))
 have t4:=(B6.cell 4).trans (rfl:_=some (Value.slice aa p.n ac))
 have t5:=(B6.cell 5).trans (rfl:_=some (Value.string (bs p.d)))
 have F6:=HH.out.below b6
 have s11:=(F6.blk.cell 11).trans (rfl:_=some (Value.int .u32 s.cmd))
 have K6:Y1 (fun k=>B≤k) w W6:=(Y1.refl _ w).below b6
 have hz6:=q6.size
 have b0_:=(B6.cell 0).trans (rfl:_=some (Value.int .i64 p.op))
 have r0:=(HB1.out.below hb2).cell 0
 have r0:=r0.trans (rfl:_=some (Value.int .i64 p.op))
 refine fun z_=>?_
 revert r0;revert b0_;revert hz6;revert K6;revert s11;revert F6;revert t5;revert t4;revert t3;revert t2
 exact z_):P:=h k
theorem Z3h{P Q:Prop}(k:Q)(h:Q→P:=by
 rw[hE]at cR
 rw[YN]at cR
 rw[hcl]at s14
 have HH:=hid h
 have HP:=hid hp
 have HV:=hid hV
 have HB1:=hid B1
 have o0:=hp0.op0
 have o1:=hp0.op1
 refine fun z_=>?_
 revert o1;revert o0;revert HB1;revert HV;revert HP;revert HH;revert s14;revert cR
 exact z_):P:=h k
theorem Z3i{P:Prop}(h:P:=by
 rw[hn]
 exact Z2t):P:=h
theorem Z4Y{P Q:Prop}(k:Q)(h:Q→P:=by
 have b6:=(b1.trans (hb2.mono b1.size)).trans (hb6.mono (b1.trans (hb2.mono b1.size)).size)
 have q6:=hb2.trans (hb6.mono hb2.size)
 have B6:=HB1.out.below q6
 have t0:=(B6.cell 0).trans (rfl:_=some (Value.int .i64 p.op))
 refine fun z_=>?_
 revert t0;revert B6;revert q6;revert b6
 exact z_):P:=h k
theorem Z4w{P Q:Prop}(k:Q)(h:Q→P:=by
 have hcl:s.closed=false:=by
  cases hc:s.closed with
  | false=>rfl
  | true=>exact absurd (.inl hc) hx
 have hE:Y2L p.op p.now p.flags p.vs p.n p.I p.d=0:=Yfa fun e=>hx (.inr e)
 refine fun z_=>?_
 revert hE;revert hcl
 exact z_):P:=h k
section
variable {w:World}{B g gp gn:Nat}{ov rv lv ta ga ua oa:Value}{sn ss:List UInt8}{lim:Int}{c:FCf}{s:FSt}
theorem Yau(p:PK)(v av:Value)(h:Yl 82 215 127 w B g gp gn ov rv lv ta ga ua oa sn ss lim c s)(hp:Y1Y B w p v av)(hV:Env B w)(hx:s.closed=true∨Y2L p.op p.now p.flags p.vs p.n p.I p.d≠0):
 Calls prog 17 #[.pointer (some ⟨g,0,none⟩),pkV p v av] w fun e w'=>Y29 82 215 127 w B g gp gn ov rv ta ga ua oa sn ss lim c (Yu c s p) (errV 36) e w':=by
 refine Z4y ?_;intro hp0;obtain⟨⟨va,vc,rfl⟩,aa,ac,rfl⟩:=hp0.forms;refine Z5 ?_;intro W1 b1 B1 hgl hgB z1 K1 V1 hp1 hpd G1 s14 t0 t1 t2 t3 t4 t5 hW1 cR hmm hmf;unfold pkV Y1a
 cases hcl:s.closed with
 | true =>
  have hT:Yu c s p=(s,[],6):=by unfold Yu;rw[Yei hcl]
  rw[hT];rw[hcl]at s14;have HF:=hid h;clear h hp hV hp0 hp1 V1 cR hx hT hpd;go_enter func17,ntmps17;go_wp2;go_ret2;exact⟨_,rv,lv,rfl,.inl ⟨rfl,rfl⟩,HF.out.below b1,.inl rfl,(Y1.refl _ w).below b1⟩
 | false =>
  have hE:=hx.resolve_left Z2E;have hT:Yu c s p=(s,[],Y2L p.op p.now p.flags p.vs p.n p.I p.d):=by unfold Yu;rw[Yed Z2E,Yei hE]
  rw[hT];rw[hcl]at s14;generalize Y2L p.op p.now p.flags p.vs p.n p.I p.d=E at *;have hEv:errV 36 E= .iface 36 (.int .i64 (E:Int)):=Y1o _ _ Z7;rw[hEv]at cR;have HE:=hid hEv;have HF:=hid h;clear h hp hV hp0 hp1 V1 hx hT hpd hE hEv;go_enter func17,ntmps17;go_wp2_with fail;go_at_call 64;refine cR.out.mono ?_;rintro e w2 ⟨rfl,hb2⟩;have b2:=b1.trans (hb2.mono b1.size);go_wp2;go_ret2;exact⟨_,rv,lv,by rw[HE.out];exact rfl,.inl ⟨rfl,rfl⟩,HF.out.below b2,.inl rfl,(Y1.refl _ w).below b2⟩
theorem Y8j(p:PK)(v av:Value)(h:Yl 82 215 127 w B g gp gn ov rv lv ta ga ua oa sn ss lim c s)(hp:Y1Y B w p v av)(hV:Env B w)(hcl:s.closed=false)(hE:Y2L p.op p.now p.flags p.vs p.n p.I p.d=0)(hop:p.op=0)
 (hn:p.now=true) (cdo: ∀W,Yl 82 215 127 W B g gp gn ov rv lv ta ga ua oa sn ss lim c s→Y1 (fun k=>B≤k) w W→Calls prog 65 #[.pointer (some ⟨g,0,none⟩),pkV p v av] W fun e w'=>Y2a 82 215 127 W B g gp gn ov rv ta ga ua oa sn ss lim c (doP c s p) e w'):
 Calls prog 17 #[.pointer (some ⟨g,0,none⟩),pkV p v av] w fun e w'=>Y29 82 215 127 w B g gp gn ov rv ta ga ua oa sn ss lim c (Yu c s p) (errV 36) e w':=by
 refine Z4y ?_;intro hp0;obtain⟨⟨va,vc,rfl⟩,aa,ac,rfl⟩:=hp0.forms;refine Z5 ?_;intro W1 b1 B1 hgl hgB z1 K1 V1 hp1 hpd G1 s14 t0 t1 t2 t3 t4 t5 hW1 cR hmm hmf;refine Z3h ?_;clear cR s14;intro cR s14 HH HP HV HB1 o0 o1;have hlk:(if p.op=0 then Value.tuple #[fnV g 65,.bool true]else if p.op=4 then .tuple #[fnV g 66,.bool true]else if p.op=6 then .tuple #[fnV g 67,.bool true]else .tuple #[.nilFunc,.bool false])= .tuple #[fnV g 65,.bool true]:=Z1d
 exact Z6
theorem Y8k(p:PK)(v av:Value)(h:Yl 82 215 127 w B g gp gn ov rv lv ta ga ua oa sn ss lim c s)(hp:Y1Y B w p v av)(hV:Env B w)(hcl:s.closed=false)(hE:Y2L p.op p.now p.flags p.vs p.n p.I p.d=0)(hop:p.op=4)
 (hn:p.now=true) (cdo: ∀W,Yl 82 215 127 W B g gp gn ov rv lv ta ga ua oa sn ss lim c s→Y1 (fun k=>B≤k) w W→Calls prog 66 #[.pointer (some ⟨g,0,none⟩),pkV p v av] W fun e w'=>Y2a 82 215 127 W B g gp gn ov rv ta ga ua oa sn ss lim c (doP c s p) e w'):
 Calls prog 17 #[.pointer (some ⟨g,0,none⟩),pkV p v av] w fun e w'=>Y29 82 215 127 w B g gp gn ov rv ta ga ua oa sn ss lim c (Yu c s p) (errV 36) e w':=by
 refine Z4y ?_;intro hp0;obtain⟨⟨va,vc,rfl⟩,aa,ac,rfl⟩:=hp0.forms;refine Z5 ?_;intro W1 b1 B1 hgl hgB z1 K1 V1 hp1 hpd G1 s14 t0 t1 t2 t3 t4 t5 hW1 cR hmm hmf;refine Z3h ?_;clear cR s14;intro cR s14 HH HP HV HB1 o0 o1;have hlk:(if p.op=0 then Value.tuple #[fnV g 65,.bool true]else if p.op=4 then .tuple #[fnV g 66,.bool true]else if p.op=6 then .tuple #[fnV g 67,.bool true]else .tuple #[.nilFunc,.bool false])= .tuple #[fnV g 66,.bool true]:=Z1d
 exact Z6
theorem Y8i(p:PK)(v av:Value)(h:Yl 82 215 127 w B g gp gn ov rv lv ta ga ua oa sn ss lim c s)(hp:Y1Y B w p v av)(hV:Env B w)(hcl:s.closed=false)(hE:Y2L p.op p.now p.flags p.vs p.n p.I p.d=0)(hop:p.op=6)
 (hn:p.now=true) (cdo: ∀W,Yl 82 215 127 W B g gp gn ov rv lv ta ga ua oa sn ss lim c s→Y1 (fun k=>B≤k) w W→Calls prog 67 #[.pointer (some ⟨g,0,none⟩),pkV p v av] W fun e w'=>Y2a 82 215 127 W B g gp gn ov rv ta ga ua oa sn ss lim c (doP c s p) e w'):
 Calls prog 17 #[.pointer (some ⟨g,0,none⟩),pkV p v av] w fun e w'=>Y29 82 215 127 w B g gp gn ov rv ta ga ua oa sn ss lim c (Yu c s p) (errV 36) e w':=by
 refine Z4y ?_;intro hp0;obtain⟨⟨va,vc,rfl⟩,aa,ac,rfl⟩:=hp0.forms;refine Z5 ?_;intro W1 b1 B1 hgl hgB z1 K1 V1 hp1 hpd G1 s14 t0 t1 t2 t3 t4 t5 hW1 cR hmm hmf;refine Z3h ?_;clear cR s14;intro cR s14 HH HP HV HB1 o0 o1;have hlk:(if p.op=0 then Value.tuple #[fnV g 65,.bool true]else if p.op=4 then .tuple #[fnV g 66,.bool true]else if p.op=6 then .tuple #[fnV g 67,.bool true]else .tuple #[.nilFunc,.bool false])= .tuple #[fnV g 67,.bool true]:=Z1d
 exact Z6
theorem Y8m(p:PK)(v av:Value)(h:Yl 82 215 127 w B g gp gn ov rv lv ta ga ua oa sn ss lim c s)(hp:Y1Y B w p v av)(hV:Env B w)(hcl:s.closed=false)(hE:Y2L p.op p.now p.flags p.vs p.n p.I p.d=0)(hop:p.op=0)
 (hn:p.now=false) (cdo: ∀W cm,cm=s.cmd∨cm=up1 s.cmd→Yl 82 215 127 W B g gp gn ov rv lv ta ga ua oa sn ss lim c {s with cmd:=cm}→Y1 (fun k=>B≤k) w W→Calls prog 65 #[.pointer (some ⟨g,0,none⟩),pkV p v av] W fun e w'=>Y2a 82 215 127 W B g gp gn ov rv ta ga ua oa sn ss lim c (doP c {s with cmd:=cm} p) e w'):
 Calls prog 17 #[.pointer (some ⟨g,0,none⟩),pkV p v av] w fun e w'=>Y29 82 215 127 w B g gp gn ov rv ta ga ua oa sn ss lim c (Yu c s p) (errV 36) e w':=by
 have hp0:=hp w (Y1.refl _ _)
 obtain⟨⟨va,vc,rfl⟩,aa,ac,rfl⟩:=hp0.forms
 obtain⟨W1,hW1⟩: ∃W1,w.alloc (.cells (pkC p (.slice va p.vs.length vc) (.slice aa p.n ac)) 63)=W1:=⟨_,rfl⟩
 have b1:Below w.heap.size w W1:=by rw[←hW1];exact(Yea _ _).alloc (Ye9 _) _
 have B1:Blk W1 w.heap.size 63 (pkC p (.slice va p.vs.length vc) (.slice aa p.n ac)):=by rw[←hW1];exact Blk.new _ _ _
 have hgl:=h.blk.lt
 have hgB:=h.gB
 have z1:W1.heap.size=w.heap.size+1:=by rw[←hW1];simp
 have K1:Y1 (fun k=>B≤k) w W1:=(Y1.refl _ w).below b1
 have V1:=hV.all W1 K1
 have hp1:=hp W1 K1
 have hpd:pkV p (.slice va p.vs.length vc) (.slice aa p.n ac)=Y1a p.op p.now p.flags (.slice va p.vs.length vc) (.slice aa p.n ac) p.d:=rfl
 have cR:=hid (Y3l p.op p.now p.flags (.slice va p.vs.length vc) p.vs (.slice aa p.n ac) p.n p.I p.d W1 hp1 V1.2.2.2 V1.1 V1.2.1)
 have G1:=h.blk.below b1
 have s14:=(G1.cell 14).trans (rfl:_=some (Value.bool s.closed))
 have t0:=(B1.cell 0).trans (rfl:_=some (Value.int .i64 p.op))
 have t1:=(B1.cell 1).trans (rfl:_=some (Value.bool p.now))
 have t2:=(B1.cell 2).trans (rfl:_=some (Value.int .i64 p.flags))
 have t3:=(B1.cell 3).trans (rfl:_=some (Value.slice va p.vs.length vc))
 have t4:=(B1.cell 4).trans (rfl:_=some (Value.slice aa p.n ac))
 have t5:=(B1.cell 5).trans (rfl:_=some (Value.string (bs p.d)))
 unfold pkC at hW1
 unfold Y1a at cR
 have hmm:=@run_makeMap prog
 have hmf: ∀ (fn:Fn) (first cap:Array Value) (w:World),(Instr.makeFunc fn first cap).run prog w= .ok (.func fn first cap) w:=fun _ _ _ _=>rfl
 rw[hE]at cR
 rw[YN]at cR
 rw[hcl]at s14
 have HH:=hid h
 have HP:=hid hp
 have HV:=hid hV
 have HB1:=hid B1
 have o0:=hp0.op0
 have o1:=hp0.op1
 have hlk:(if p.op=0 then Value.tuple #[fnV g 65,.bool true]else if p.op=4 then .tuple #[fnV g 66,.bool true]else if p.op=6 then .tuple #[fnV g 67,.bool true]else .tuple #[.nilFunc,.bool false])= .tuple #[fnV g 65,.bool true]:=by rw[hop];rfl
 have CDO:=hid cdo
 have hcmd:=Ydb hE
 have hT0:Yu c s p=if(p.v Y1d:Int)≠s.cmd then((Y34 s p 4).1,(Y34 s p 4).2,0)else if Y1v p=false then((doP c {s with cmd:=up1 s.cmd} p).1,(doP c {s with cmd:=up1 s.cmd} p).2,0)else((doP c s p).1,(doP c s p).2,0):=by
  unfold Yu
  rw[Yed (by rw[hcl];simp),Yed (fun e=>e hE),Yed (by omega)]
  simp only[hn,true_and]
 have hwx:IntKind.u32.wrap (p.v Y1d:Int)=p.v Y1d:=by rw[Yfo];omega
 have CV:=fun(name:List UInt8) (W:World) (hk:Y1 (fun k=>B≤k) w W)=>hid (Y2z p _ _ W (hp W hk) (hV.all W hk).1 (hV.all W hk).2.1 name)
 have CR:=fun(W:World) (hb:Below w.heap.size w W)=>hid (Y1J p _ _ 4 (h.below hb) (hp W ((Y1.refl _ w).below hb)) hE (by omega) (by omega) (hV.all W ((Y1.refl _ w).below hb)).1 (hV.all W ((Y1.refl _ w).below hb)).2.1)
 unfold pkV Y1a at CDO CV CR ⊢
 simp only[hn]at t1 hW1 cR CDO CV CR ⊢
 have HNW:=hid hn
 have HT0:=hid hT0
 have HE:=hid hE
 have HOP:=hid hop
 clear h hp hV hp0 hp1 V1 hpd B1 G1 cdo hT0 hcl hE hn hop
 go_enter func17,ntmps17
 go_wp2_with fail
 go_at_call 64
 refine cR.out.mono ?_
 rintro e w2 ⟨rfl,hb2⟩
 obtain⟨W4,W5,W6,m1,m2,m3,hb6,z6,lk⟩:=Y59 w2 (fnV g 65) (fnV g 66) (fnV g 67)
 have lkp:=lk p.op o0 o1
 rw[hlk]at lkp
 unfold fnV at m1 m2 m3 lkp
 clear lk hlk
 have b6:=(b1.trans (hb2.mono b1.size)).trans (hb6.mono (b1.trans (hb2.mono b1.size)).size)
 have q6:=hb2.trans (hb6.mono hb2.size)
 have B6:=HB1.out.below q6
 have t0:=(B6.cell 0).trans (rfl:_=some (Value.int .i64 p.op))
 have t1:=(B6.cell 1).trans (show _=some (Value.bool false) by rw[show(pkC p (.slice va p.vs.length vc) (.slice aa p.n ac))[1]?=some (Value.bool p.now)from rfl,HNW.out])
 have t2:=(B6.cell 2).trans (rfl:_=some (Value.int .i64 p.flags))
 have t3:=(B6.cell 3).trans (rfl:_=some (Value.slice va p.vs.length vc))
 have t4:=(B6.cell 4).trans (rfl:_=some (Value.slice aa p.n ac))
 have t5:=(B6.cell 5).trans (rfl:_=some (Value.string (bs p.d)))
 have F6:=HH.out.below b6
 have s11:=(F6.blk.cell 11).trans (rfl:_=some (Value.int .u32 s.cmd))
 have K6:Y1 (fun k=>B≤k) w W6:=(Y1.refl _ w).below b6
 have hz6:=q6.size
 have b0_:=(B6.cell 0).trans (rfl:_=some (Value.int .i64 p.op))
 have r0:=(HB1.out.below hb2).cell 0
 have r0:=r0.trans (rfl:_=some (Value.int .i64 p.op))
 have cvS: ∀ (name:List UInt8) (W:World),(W.cell? ⟨w.heap.size,0,none⟩=some (.int .i64 p.op)∧W.cell? ⟨w.heap.size,1,none⟩=some (.bool false)∧W.cell? ⟨w.heap.size,2,none⟩=some (.int .i64 p.flags)∧W.cell? ⟨w.heap.size,3,none⟩=some (.slice va p.vs.length vc)∧W.cell? ⟨w.heap.size,4,none⟩=some (.slice aa p.n ac)∧W.cell? ⟨w.heap.size,5,none⟩=some (.string (bs p.d))∧W.cell? ⟨g,11,none⟩=some (.int .u32 s.cmd)∧Below W6.heap.size W6 W)→Hid (Calls prog 69 #[.agg #[.int .i64 p.op,.bool false,.int .i64 p.flags,.slice va p.vs.length vc,.slice aa p.n ac,.string (bs p.d)],.string (bs name)] W fun e w'=>e= .returned (.int .u64 (p.v name:Nat))∧w'.cell? ⟨w.heap.size,0,none⟩=some (.int .i64 p.op)∧w'.cell? ⟨w.heap.size,1,none⟩=some (.bool false)∧w'.cell? ⟨w.heap.size,2,none⟩=some (.int .i64 p.flags)∧w'.cell? ⟨w.heap.size,3,none⟩=some (.slice va p.vs.length vc)∧w'.cell? ⟨w.heap.size,4,none⟩=some (.slice aa p.n ac)∧w'.cell? ⟨w.heap.size,5,none⟩=some (.string (bs p.d))∧w'.cell? ⟨g,11,none⟩=some (.int .u32 s.cmd)∧Below W6.heap.size W6 w'):=by
  rintro name W ⟨i0,i1,i2,i3,i4,i5,i11,iB⟩
  refine hid ((CV name W (K6.below iB)).out.mono ?_)
  rintro e w' ⟨he,hb⟩
  exact⟨he,(hb.cell (Yeb i0)).trans i0,(hb.cell (Yeb i1)).trans i1,(hb.cell (Yeb i2)).trans i2,(hb.cell (Yeb i3)).trans i3,(hb.cell (Yeb i4)).trans i4,(hb.cell (Yeb i5)).trans i5,(hb.cell (Yeb i11)).trans i11,iB.trans (hb.mono iB.size)⟩
 have hS0:W6.drew.cell? ⟨w.heap.size,0,none⟩=some (.int .i64 p.op)∧W6.drew.cell? ⟨w.heap.size,1,none⟩=some (.bool false)∧W6.drew.cell? ⟨w.heap.size,2,none⟩=some (.int .i64 p.flags)∧W6.drew.cell? ⟨w.heap.size,3,none⟩=some (.slice va p.vs.length vc)∧W6.drew.cell? ⟨w.heap.size,4,none⟩=some (.slice aa p.n ac)∧W6.drew.cell? ⟨w.heap.size,5,none⟩=some (.string (bs p.d))∧W6.drew.cell? ⟨g,11,none⟩=some (.int .u32 s.cmd)∧Below W6.heap.size W6 W6.drew:=⟨t0,t1,t2,t3,t4,t5,s11,(Yea _ _).drew⟩
 have HF6:=hid F6;have HB6:=hid B6;have HK6B:=hid K6
 clear F6 K6 B6 b0_ r0
 go_upto_region 11 with fail
 go_region_held3 (fun w'=>w'.cell? ⟨w.heap.size,0,none⟩=some (.int .i64 p.op)∧w'.cell? ⟨w.heap.size,1,none⟩=some (.bool false)∧w'.cell? ⟨w.heap.size,2,none⟩=some (.int .i64 p.flags)∧w'.cell? ⟨w.heap.size,3,none⟩=some (.slice va p.vs.length vc)∧w'.cell? ⟨w.heap.size,4,none⟩=some (.slice aa p.n ac)∧w'.cell? ⟨w.heap.size,5,none⟩=some (.string (bs p.d))∧w'.cell? ⟨g,11,none⟩=some (.int .u32 s.cmd)∧Below W6.heap.size W6 w')
  (first | exact hS0 | assumption | exact⟨by assumption,by assumption,by assumption,by assumption,by assumption,by assumption,by assumption,by assumption⟩)
  (first | (go_at_call 69;refine(cvS Y1d _ ?_).out.mono ?_;(first | exact hS0 | assumption | exact⟨by assumption,by assumption,by assumption,by assumption,by assumption,by assumption,by assumption,by assumption⟩);rintro e w7 ⟨rfl,c0,c1,c2,c3,c4,c5,c11,cB⟩))
 have b7:=b6.trans (cB.mono b6.size)
 have K7:Y1 (fun k=>B≤k) w w7:=HK6B.out.below cB
 have F7:=HF6.out.below cB
 have HK7:=hid ((Y1.refl (SF g gp gn rv) w).below b7)
 by_cases hmis:(p.v Y1d:Int)=s.cmd
 ·have hme:((p.v Y1d:Int) !=s.cmd)=false:=by rw[Ygk];exact hmis
  have hT1:Yu c s p=if Y1v p=false then((doP c {s with cmd:=up1 s.cmd} p).1,(doP c {s with cmd:=up1 s.cmd} p).2,0)else((doP c s p).1,(doP c s p).2,0):=by rw[HT0.out,Yed (fun e=>e hmis)]
  have hop1:(p.op !=0)=false:=by rw[HOP.out];rfl
  have ci:=cvS Ye w7 ⟨c0,c1,c2,c3,c4,c5,c11,cB⟩
  clear hmis
  by_cases hi:p.v Ye=Y26
  ·have hq:Y1v p=true:=by unfold Y1v;rw[HOP.out,hi];rfl
   have hTK:Yu c s p=((doP c s p).1,(doP c s p).2,0):=by rw[hT1,Yed (by rw[hq];simp)]
   have HTK:=hid hTK
   have hin:((p.v Ye:Int) !=4294967295)=false:=by rw[hi];rfl
   clear hTK hT1 hq hi
   go_wp2_with fail
   go_at_call 69
   refine ci.out.mono ?_
   rintro e w8 ⟨rfl,c0,c1,c2,c3,c4,c5,c11,cB⟩
   have b8:=b6.trans (cB.mono b6.size)
   have cd:=hid (CDO.out w8 s.cmd (.inl rfl) (HF6.out.below cB) (HK6B.out.below cB))
   have HK8:=hid ((Y1.refl (SF g gp gn rv) w).below b8)
   clear F7 K7 CV CR CDO cvS hS0
   go_wp2_with fail
   refine cd.out.mono ?_
   rintro e wz ⟨v,rv',lv',rfl,ha,hf,hr,hk⟩
   go_wp2
   go_ret2
   rw[HTK.out]
   exact⟨_,rv',lv',rfl,ha,hf,(by rcases hr with h1 | ⟨q,h1,h2⟩;exact .inl h1;exact .inr ⟨q,h1,Yeu HK8.out.size h2⟩),HK8.out.trans hk (fun i hi=> .inl hi)⟩
  ·have hq:Y1v p=false:=by unfold Y1v;rw[Yeh hi,Ygf]
   have hTK:Yu c s p=((doP c {s with cmd:=up1 s.cmd} p).1,(doP c {s with cmd:=up1 s.cmd} p).2,0):=by rw[hT1,Yei hq]
   have HTK:=hid hTK
   have hin:((p.v Ye:Int) !=4294967295)=true:=by
    simp only[Ygt,ne_eq]
    intro e
    exact hi (by unfold Y26;omega)
   clear hTK hT1 hq hi
   go_wp2_with fail
   go_at_call 69
   refine ci.out.mono ?_
   rintro e w8 ⟨rfl,c0,c1,c2,c3,c4,c5,c11,cB8⟩
   have F7:=HF6.out.below cB8
   have K7:Y1 (fun k=>B≤k) w w8:=HK6B.out.below cB8
   have HK7:=hid ((Y1.refl (SF g gp gn rv) w).below (b6.trans (cB8.mono b6.size)))
   have G7:=F7.blk
   have f11:=G7.free 11
   have hwc:IntKind.u32.wrap (s.cmd+1)=up1 s.cmd:=by rw[Yfo];rfl
   obtain⟨W8,hW8⟩: ∃W8,w8.setCell ⟨g,11,none⟩ (.int .u32 (up1 s.cmd))=W8:=⟨_,rfl⟩
   have K8:Y1 (fun k=>k=g) w8 W8:=by rw[←hW8];exact(Y1.refl _ w8).set _ _ (.inl rfl)
   have G8:Blk W8 g 82 (Y14 (.pointer (some ⟨gn,0,none⟩)) ta ga ua oa sn ss lim c.name c.disc s.stat (up1 s.cmd) (.pointer (some ⟨gp,0,none⟩)) lv s.closed):=by rw[←hW8];exact G7.set 11 _
   have F8:=F7.own K8 s.stat (up1 s.cmd) lv s.left s.closed G8 (F7.lft.kept K8 (fun b cs hb e=>by
    have e:b=g:=e
    subst e
    exact Ym hb F7.blk (by decide) rfl)) F7.s0 F7.s1 (by unfold up1;omega) (by unfold up1;omega) (by decide) (by decide) (by decide)
   have B8:Blk W8 w.heap.size 63 (pkC p (.slice va p.vs.length vc) (.slice aa p.n ac)):=K8.blk (HB6.out.below cB8) (show ¬w.heap.size=g by omega)
   have t0:=(B8.cell 0).trans (rfl:_=some (Value.int .i64 p.op))
   have t1:=(B8.cell 1).trans (show _=some (Value.bool false) by rw[show(pkC p (.slice va p.vs.length vc) (.slice aa p.n ac))[1]?=some (Value.bool p.now)from rfl,HNW.out])
   have t2:=(B8.cell 2).trans (rfl:_=some (Value.int .i64 p.flags))
   have t3:=(B8.cell 3).trans (rfl:_=some (Value.slice va p.vs.length vc))
   have t4:=(B8.cell 4).trans (rfl:_=some (Value.slice aa p.n ac))
   have t5:=(B8.cell 5).trans (rfl:_=some (Value.string (bs p.d)))
   have cd:=hid (CDO.out W8 (up1 s.cmd) (.inr rfl) F8 (K7.trans K8 (fun i hi=> .inl (by have hi:i=g:=hi;omega))))
   have HK8:=hid (HK7.out.trans K8 (fun i hi=> .inl (.inl hi)))
   clear F7 K7 CV CR CDO cvS hS0 G7 K8 G8 F8 B8
   go_wp2_with fail
   refine cd.out.mono ?_
   rintro e wz ⟨v,rv',lv',rfl,ha,hf,hr,hk⟩
   go_wp2
   go_ret2
   rw[HTK.out]
   exact⟨_,rv',lv',rfl,ha,hf,(by rcases hr with h1 | ⟨q,h1,h2⟩;exact .inl h1;exact .inr ⟨q,h1,Yeu HK8.out.size h2⟩),HK8.out.trans hk (fun i hi=> .inl hi)⟩
 ·have hme:((p.v Y1d:Int) !=s.cmd)=true:=by simp[hmis]
  have hTK:Yu c s p=((Y34 s p 4).1,(Y34 s p 4).2,0):=by rw[HT0.out,Yei hmis]
  have HTK:=hid hTK
  have cr:=CR w7 b7
  clear hmis hTK F7 K7 CV CR CDO cvS hS0
  go_wp2_with fail
  go_at_call 68
  refine cr.out.mono ?_
  rintro e wz ⟨v,rfl,ha,hf,hk⟩
  go_wp2
  go_ret2
  rw[HTK.out]
  exact⟨_,rv,lv,rfl,ha,hf,.inl rfl,HK7.out.trans hk (fun i hi=> .inl (.inl hi))⟩
theorem Y8n(p:PK)(v av:Value)(h:Yl 82 215 127 w B g gp gn ov rv lv ta ga ua oa sn ss lim c s)(hp:Y1Y B w p v av)(hV:Env B w)(hcl:s.closed=false)(hE:Y2L p.op p.now p.flags p.vs p.n p.I p.d=0)(hop:p.op=4)
 (hn:p.now=false) (cdo: ∀W cm,cm=s.cmd∨cm=up1 s.cmd→Yl 82 215 127 W B g gp gn ov rv lv ta ga ua oa sn ss lim c {s with cmd:=cm}→Y1 (fun k=>B≤k) w W→Calls prog 66 #[.pointer (some ⟨g,0,none⟩),pkV p v av] W fun e w'=>Y2a 82 215 127 W B g gp gn ov rv ta ga ua oa sn ss lim c (doP c {s with cmd:=cm} p) e w'):
 Calls prog 17 #[.pointer (some ⟨g,0,none⟩),pkV p v av] w fun e w'=>Y29 82 215 127 w B g gp gn ov rv ta ga ua oa sn ss lim c (Yu c s p) (errV 36) e w':=by
 have hp0:=hp w (Y1.refl _ _)
 obtain⟨⟨va,vc,rfl⟩,aa,ac,rfl⟩:=hp0.forms
 obtain⟨W1,hW1⟩: ∃W1,w.alloc (.cells (pkC p (.slice va p.vs.length vc) (.slice aa p.n ac)) 63)=W1:=⟨_,rfl⟩
 have b1:Below w.heap.size w W1:=by rw[←hW1];exact(Yea _ _).alloc (Ye9 _) _
 have B1:Blk W1 w.heap.size 63 (pkC p (.slice va p.vs.length vc) (.slice aa p.n ac)):=by rw[←hW1];exact Blk.new _ _ _
 have hgl:=h.blk.lt
 have hgB:=h.gB
 have z1:W1.heap.size=w.heap.size+1:=by rw[←hW1];simp
 have K1:Y1 (fun k=>B≤k) w W1:=(Y1.refl _ w).below b1
 have V1:=hV.all W1 K1
 have hp1:=hp W1 K1
 have hpd:pkV p (.slice va p.vs.length vc) (.slice aa p.n ac)=Y1a p.op p.now p.flags (.slice va p.vs.length vc) (.slice aa p.n ac) p.d:=rfl
 have cR:=hid (Y3l p.op p.now p.flags (.slice va p.vs.length vc) p.vs (.slice aa p.n ac) p.n p.I p.d W1 hp1 V1.2.2.2 V1.1 V1.2.1)
 have G1:=h.blk.below b1
 have s14:=(G1.cell 14).trans (rfl:_=some (Value.bool s.closed))
 have t0:=(B1.cell 0).trans (rfl:_=some (Value.int .i64 p.op))
 have t1:=(B1.cell 1).trans (rfl:_=some (Value.bool p.now))
 have t2:=(B1.cell 2).trans (rfl:_=some (Value.int .i64 p.flags))
 have t3:=(B1.cell 3).trans (rfl:_=some (Value.slice va p.vs.length vc))
 have t4:=(B1.cell 4).trans (rfl:_=some (Value.slice aa p.n ac))
 have t5:=(B1.cell 5).trans (rfl:_=some (Value.string (bs p.d)))
 unfold pkC at hW1
 unfold Y1a at cR
 have hmm:=@run_makeMap prog
 have hmf: ∀ (fn:Fn) (first cap:Array Value) (w:World),(Instr.makeFunc fn first cap).run prog w= .ok (.func fn first cap) w:=fun _ _ _ _=>rfl
 rw[hE]at cR
 rw[YN]at cR
 rw[hcl]at s14
 have HH:=hid h
 have HP:=hid hp
 have HV:=hid hV
 have HB1:=hid B1
 have o0:=hp0.op0
 have o1:=hp0.op1
 have hlk:(if p.op=0 then Value.tuple #[fnV g 65,.bool true]else if p.op=4 then .tuple #[fnV g 66,.bool true]else if p.op=6 then .tuple #[fnV g 67,.bool true]else .tuple #[.nilFunc,.bool false])= .tuple #[fnV g 66,.bool true]:=by rw[hop];rfl
 have CDO:=hid cdo
 have hcmd:=Ydb hE
 have hT0:Yu c s p=if(p.v Y1d:Int)≠s.cmd then((Y34 s p 4).1,(Y34 s p 4).2,0)else if Y1v p=false then((doP c {s with cmd:=up1 s.cmd} p).1,(doP c {s with cmd:=up1 s.cmd} p).2,0)else((doP c s p).1,(doP c s p).2,0):=by
  unfold Yu
  rw[Yed (by rw[hcl];simp),Yed (fun e=>e hE),Yed (by omega)]
  simp only[hn,true_and]
 have hwx:IntKind.u32.wrap (p.v Y1d:Int)=p.v Y1d:=by rw[Yfo];omega
 have CV:=fun(name:List UInt8) (W:World) (hk:Y1 (fun k=>B≤k) w W)=>hid (Y2z p _ _ W (hp W hk) (hV.all W hk).1 (hV.all W hk).2.1 name)
 have CR:=fun(W:World) (hb:Below w.heap.size w W)=>hid (Y1J p _ _ 4 (h.below hb) (hp W ((Y1.refl _ w).below hb)) hE (by omega) (by omega) (hV.all W ((Y1.refl _ w).below hb)).1 (hV.all W ((Y1.refl _ w).below hb)).2.1)
 unfold pkV Y1a at CDO CV CR ⊢
 simp only[hn]at t1 hW1 cR CDO CV CR ⊢
 have HNW:=hid hn
 have HT0:=hid hT0
 have HE:=hid hE
 have HOP:=hid hop
 clear h hp hV hp0 hp1 V1 hpd B1 G1 cdo hT0 hcl hE hn hop
 go_enter func17,ntmps17
 go_wp2_with fail
 go_at_call 64
 refine cR.out.mono ?_
 rintro e w2 ⟨rfl,hb2⟩
 obtain⟨W4,W5,W6,m1,m2,m3,hb6,z6,lk⟩:=Y59 w2 (fnV g 65) (fnV g 66) (fnV g 67)
 have lkp:=lk p.op o0 o1
 rw[hlk]at lkp
 unfold fnV at m1 m2 m3 lkp
 clear lk hlk
 have b6:=(b1.trans (hb2.mono b1.size)).trans (hb6.mono (b1.trans (hb2.mono b1.size)).size)
 have q6:=hb2.trans (hb6.mono hb2.size)
 have B6:=HB1.out.below q6
 have t0:=(B6.cell 0).trans (rfl:_=some (Value.int .i64 p.op))
 have t1:=(B6.cell 1).trans (show _=some (Value.bool false) by rw[show(pkC p (.slice va p.vs.length vc) (.slice aa p.n ac))[1]?=some (Value.bool p.now)from rfl,HNW.out])
 have t2:=(B6.cell 2).trans (rfl:_=some (Value.int .i64 p.flags))
 have t3:=(B6.cell 3).trans (rfl:_=some (Value.slice va p.vs.length vc))
 have t4:=(B6.cell 4).trans (rfl:_=some (Value.slice aa p.n ac))
 have t5:=(B6.cell 5).trans (rfl:_=some (Value.string (bs p.d)))
 have F6:=HH.out.below b6
 have s11:=(F6.blk.cell 11).trans (rfl:_=some (Value.int .u32 s.cmd))
 have K6:Y1 (fun k=>B≤k) w W6:=(Y1.refl _ w).below b6
 have hz6:=q6.size
 have b0_:=(B6.cell 0).trans (rfl:_=some (Value.int .i64 p.op))
 have r0:=(HB1.out.below hb2).cell 0
 have r0:=r0.trans (rfl:_=some (Value.int .i64 p.op))
 have cvS: ∀ (name:List UInt8) (W:World),(W.cell? ⟨w.heap.size,0,none⟩=some (.int .i64 p.op)∧W.cell? ⟨w.heap.size,1,none⟩=some (.bool false)∧W.cell? ⟨w.heap.size,2,none⟩=some (.int .i64 p.flags)∧W.cell? ⟨w.heap.size,3,none⟩=some (.slice va p.vs.length vc)∧W.cell? ⟨w.heap.size,4,none⟩=some (.slice aa p.n ac)∧W.cell? ⟨w.heap.size,5,none⟩=some (.string (bs p.d))∧W.cell? ⟨g,11,none⟩=some (.int .u32 s.cmd)∧Below W6.heap.size W6 W)→Hid (Calls prog 69 #[.agg #[.int .i64 p.op,.bool false,.int .i64 p.flags,.slice va p.vs.length vc,.slice aa p.n ac,.string (bs p.d)],.string (bs name)] W fun e w'=>e= .returned (.int .u64 (p.v name:Nat))∧w'.cell? ⟨w.heap.size,0,none⟩=some (.int .i64 p.op)∧w'.cell? ⟨w.heap.size,1,none⟩=some (.bool false)∧w'.cell? ⟨w.heap.size,2,none⟩=some (.int .i64 p.flags)∧w'.cell? ⟨w.heap.size,3,none⟩=some (.slice va p.vs.length vc)∧w'.cell? ⟨w.heap.size,4,none⟩=some (.slice aa p.n ac)∧w'.cell? ⟨w.heap.size,5,none⟩=some (.string (bs p.d))∧w'.cell? ⟨g,11,none⟩=some (.int .u32 s.cmd)∧Below W6.heap.size W6 w'):=by
  rintro name W ⟨i0,i1,i2,i3,i4,i5,i11,iB⟩
  refine hid ((CV name W (K6.below iB)).out.mono ?_)
  rintro e w' ⟨he,hb⟩
  exact⟨he,(hb.cell (Yeb i0)).trans i0,(hb.cell (Yeb i1)).trans i1,(hb.cell (Yeb i2)).trans i2,(hb.cell (Yeb i3)).trans i3,(hb.cell (Yeb i4)).trans i4,(hb.cell (Yeb i5)).trans i5,(hb.cell (Yeb i11)).trans i11,iB.trans (hb.mono iB.size)⟩
 have hS0:W6.drew.cell? ⟨w.heap.size,0,none⟩=some (.int .i64 p.op)∧W6.drew.cell? ⟨w.heap.size,1,none⟩=some (.bool false)∧W6.drew.cell? ⟨w.heap.size,2,none⟩=some (.int .i64 p.flags)∧W6.drew.cell? ⟨w.heap.size,3,none⟩=some (.slice va p.vs.length vc)∧W6.drew.cell? ⟨w.heap.size,4,none⟩=some (.slice aa p.n ac)∧W6.drew.cell? ⟨w.heap.size,5,none⟩=some (.string (bs p.d))∧W6.drew.cell? ⟨g,11,none⟩=some (.int .u32 s.cmd)∧Below W6.heap.size W6 W6.drew:=⟨t0,t1,t2,t3,t4,t5,s11,(Yea _ _).drew⟩
 have HF6:=hid F6;have HB6:=hid B6;have HK6B:=hid K6
 clear F6 K6 B6 b0_ r0
 go_upto_region 11 with fail
 go_region_held3 (fun w'=>w'.cell? ⟨w.heap.size,0,none⟩=some (.int .i64 p.op)∧w'.cell? ⟨w.heap.size,1,none⟩=some (.bool false)∧w'.cell? ⟨w.heap.size,2,none⟩=some (.int .i64 p.flags)∧w'.cell? ⟨w.heap.size,3,none⟩=some (.slice va p.vs.length vc)∧w'.cell? ⟨w.heap.size,4,none⟩=some (.slice aa p.n ac)∧w'.cell? ⟨w.heap.size,5,none⟩=some (.string (bs p.d))∧w'.cell? ⟨g,11,none⟩=some (.int .u32 s.cmd)∧Below W6.heap.size W6 w')
  (first | exact hS0 | assumption | exact⟨by assumption,by assumption,by assumption,by assumption,by assumption,by assumption,by assumption,by assumption⟩)
  (first | (go_at_call 69;refine(cvS Y1d _ ?_).out.mono ?_;(first | exact hS0 | assumption | exact⟨by assumption,by assumption,by assumption,by assumption,by assumption,by assumption,by assumption,by assumption⟩);rintro e w7 ⟨rfl,c0,c1,c2,c3,c4,c5,c11,cB⟩))
 have b7:=b6.trans (cB.mono b6.size)
 have K7:Y1 (fun k=>B≤k) w w7:=HK6B.out.below cB
 have F7:=HF6.out.below cB
 have HK7:=hid ((Y1.refl (SF g gp gn rv) w).below b7)
 by_cases hmis:(p.v Y1d:Int)=s.cmd
 ·have hme:((p.v Y1d:Int) !=s.cmd)=false:=by rw[Ygk];exact hmis
  have hT1:Yu c s p=if Y1v p=false then((doP c {s with cmd:=up1 s.cmd} p).1,(doP c {s with cmd:=up1 s.cmd} p).2,0)else((doP c s p).1,(doP c s p).2,0):=by rw[HT0.out,Yed (fun e=>e hmis)]
  have hq:Y1v p=false:=by unfold Y1v;rw[HOP.out];rfl
  have hTK:Yu c s p=((doP c {s with cmd:=up1 s.cmd} p).1,(doP c {s with cmd:=up1 s.cmd} p).2,0):=by rw[hT1,Yei hq]
  have HTK:=hid hTK
  have hop1:(p.op !=0)=true:=by rw[HOP.out];rfl
  clear hmis hTK hT1 hq
  have G7:=F7.blk
  have f11:=G7.free 11
  have hwc:IntKind.u32.wrap (s.cmd+1)=up1 s.cmd:=by rw[Yfo];rfl
  obtain⟨W8,hW8⟩: ∃W8,w7.setCell ⟨g,11,none⟩ (.int .u32 (up1 s.cmd))=W8:=⟨_,rfl⟩
  have K8:Y1 (fun k=>k=g) w7 W8:=by rw[←hW8];exact(Y1.refl _ w7).set _ _ (.inl rfl)
  have G8:Blk W8 g 82 (Y14 (.pointer (some ⟨gn,0,none⟩)) ta ga ua oa sn ss lim c.name c.disc s.stat (up1 s.cmd) (.pointer (some ⟨gp,0,none⟩)) lv s.closed):=by rw[←hW8];exact G7.set 11 _
  have F8:=F7.own K8 s.stat (up1 s.cmd) lv s.left s.closed G8 (F7.lft.kept K8 (fun b cs hb e=>by
   have e:b=g:=e
   subst e
   exact Ym hb F7.blk (by decide) rfl)) F7.s0 F7.s1 (by unfold up1;omega) (by unfold up1;omega) (by decide) (by decide) (by decide)
  have B8:Blk W8 w.heap.size 63 (pkC p (.slice va p.vs.length vc) (.slice aa p.n ac)):=K8.blk (HB6.out.below cB) (show ¬w.heap.size=g by omega)
  have t0:=(B8.cell 0).trans (rfl:_=some (Value.int .i64 p.op))
  have t1:=(B8.cell 1).trans (show _=some (Value.bool false) by rw[show(pkC p (.slice va p.vs.length vc) (.slice aa p.n ac))[1]?=some (Value.bool p.now)from rfl,HNW.out])
  have t2:=(B8.cell 2).trans (rfl:_=some (Value.int .i64 p.flags))
  have t3:=(B8.cell 3).trans (rfl:_=some (Value.slice va p.vs.length vc))
  have t4:=(B8.cell 4).trans (rfl:_=some (Value.slice aa p.n ac))
  have t5:=(B8.cell 5).trans (rfl:_=some (Value.string (bs p.d)))
  have cd:=hid (CDO.out W8 (up1 s.cmd) (.inr rfl) F8 (K7.trans K8 (fun i hi=> .inl (by have hi:i=g:=hi;omega))))
  have HK8:=hid (HK7.out.trans K8 (fun i hi=> .inl (.inl hi)))
  clear F7 K7 CV CR CDO cvS hS0 G7 K8 G8 F8 B8
  go_wp2_with fail
  refine cd.out.mono ?_
  rintro e wz ⟨v,rv',lv',rfl,ha,hf,hr,hk⟩
  go_wp2
  go_ret2
  rw[HTK.out]
  exact⟨_,rv',lv',rfl,ha,hf,(by rcases hr with h1 | ⟨q,h1,h2⟩;exact .inl h1;exact .inr ⟨q,h1,Yeu HK8.out.size h2⟩),HK8.out.trans hk (fun i hi=> .inl hi)⟩
 ·have hme:((p.v Y1d:Int) !=s.cmd)=true:=by simp[hmis]
  have hTK:Yu c s p=((Y34 s p 4).1,(Y34 s p 4).2,0):=by rw[HT0.out,Yei hmis]
  have HTK:=hid hTK
  have cr:=CR w7 b7
  clear hmis hTK F7 K7 CV CR CDO cvS hS0
  go_wp2_with fail
  go_at_call 68
  refine cr.out.mono ?_
  rintro e wz ⟨v,rfl,ha,hf,hk⟩
  go_wp2
  go_ret2
  rw[HTK.out]
  exact⟨_,rv,lv,rfl,ha,hf,.inl rfl,HK7.out.trans hk (fun i hi=> .inl (.inl hi))⟩
theorem Y8l(p:PK)(v av:Value)(h:Yl 82 215 127 w B g gp gn ov rv lv ta ga ua oa sn ss lim c s)(hp:Y1Y B w p v av)(hV:Env B w)(hcl:s.closed=false)(hE:Y2L p.op p.now p.flags p.vs p.n p.I p.d=0)(hop:p.op=6)
 (hn:p.now=false) (cdo: ∀W cm,cm=s.cmd∨cm=up1 s.cmd→Yl 82 215 127 W B g gp gn ov rv lv ta ga ua oa sn ss lim c {s with cmd:=cm}→Y1 (fun k=>B≤k) w W→Calls prog 67 #[.pointer (some ⟨g,0,none⟩),pkV p v av] W fun e w'=>Y2a 82 215 127 W B g gp gn ov rv ta ga ua oa sn ss lim c (doP c {s with cmd:=cm} p) e w'):
 Calls prog 17 #[.pointer (some ⟨g,0,none⟩),pkV p v av] w fun e w'=>Y29 82 215 127 w B g gp gn ov rv ta ga ua oa sn ss lim c (Yu c s p) (errV 36) e w':=by
 have hp0:=hp w (Y1.refl _ _)
 obtain⟨⟨va,vc,rfl⟩,aa,ac,rfl⟩:=hp0.forms
 obtain⟨W1,hW1⟩: ∃W1,w.alloc (.cells (pkC p (.slice va p.vs.length vc) (.slice aa p.n ac)) 63)=W1:=⟨_,rfl⟩
 have b1:Below w.heap.size w W1:=by rw[←hW1];exact(Yea _ _).alloc (Ye9 _) _
 have B1:Blk W1 w.heap.size 63 (pkC p (.slice va p.vs.length vc) (.slice aa p.n ac)):=by rw[←hW1];exact Blk.new _ _ _
 have hgl:=h.blk.lt
 have hgB:=h.gB
 have z1:W1.heap.size=w.heap.size+1:=by rw[←hW1];simp
 have K1:Y1 (fun k=>B≤k) w W1:=(Y1.refl _ w).below b1
 have V1:=hV.all W1 K1
 have hp1:=hp W1 K1
 have hpd:pkV p (.slice va p.vs.length vc) (.slice aa p.n ac)=Y1a p.op p.now p.flags (.slice va p.vs.length vc) (.slice aa p.n ac) p.d:=rfl
 have cR:=hid (Y3l p.op p.now p.flags (.slice va p.vs.length vc) p.vs (.slice aa p.n ac) p.n p.I p.d W1 hp1 V1.2.2.2 V1.1 V1.2.1)
 have G1:=h.blk.below b1
 have s14:=(G1.cell 14).trans (rfl:_=some (Value.bool s.closed))
 have t0:=(B1.cell 0).trans (rfl:_=some (Value.int .i64 p.op))
 have t1:=(B1.cell 1).trans (rfl:_=some (Value.bool p.now))
 have t2:=(B1.cell 2).trans (rfl:_=some (Value.int .i64 p.flags))
 have t3:=(B1.cell 3).trans (rfl:_=some (Value.slice va p.vs.length vc))
 have t4:=(B1.cell 4).trans (rfl:_=some (Value.slice aa p.n ac))
 have t5:=(B1.cell 5).trans (rfl:_=some (Value.string (bs p.d)))
 unfold pkC at hW1
 unfold Y1a at cR
 have hmm:=@run_makeMap prog
 have hmf: ∀ (fn:Fn) (first cap:Array Value) (w:World),(Instr.makeFunc fn first cap).run prog w= .ok (.func fn first cap) w:=fun _ _ _ _=>rfl
 rw[hE]at cR
 rw[YN]at cR
 rw[hcl]at s14
 have HH:=hid h
 have HP:=hid hp
 have HV:=hid hV
 have HB1:=hid B1
 have o0:=hp0.op0
 have o1:=hp0.op1
 have hlk:(if p.op=0 then Value.tuple #[fnV g 65,.bool true]else if p.op=4 then .tuple #[fnV g 66,.bool true]else if p.op=6 then .tuple #[fnV g 67,.bool true]else .tuple #[.nilFunc,.bool false])= .tuple #[fnV g 67,.bool true]:=by rw[hop];rfl
 have CDO:=hid cdo
 have hcmd:=Ydb hE
 have hT0:Yu c s p=if(p.v Y1d:Int)≠s.cmd then((Y34 s p 4).1,(Y34 s p 4).2,0)else if Y1v p=false then((doP c {s with cmd:=up1 s.cmd} p).1,(doP c {s with cmd:=up1 s.cmd} p).2,0)else((doP c s p).1,(doP c s p).2,0):=by
  unfold Yu
  rw[Yed (by rw[hcl];simp),Yed (fun e=>e hE),Yed (by omega)]
  simp only[hn,true_and]
 have hwx:IntKind.u32.wrap (p.v Y1d:Int)=p.v Y1d:=by rw[Yfo];omega
 have CV:=fun(name:List UInt8) (W:World) (hk:Y1 (fun k=>B≤k) w W)=>hid (Y2z p _ _ W (hp W hk) (hV.all W hk).1 (hV.all W hk).2.1 name)
 have CR:=fun(W:World) (hb:Below w.heap.size w W)=>hid (Y1J p _ _ 4 (h.below hb) (hp W ((Y1.refl _ w).below hb)) hE (by omega) (by omega) (hV.all W ((Y1.refl _ w).below hb)).1 (hV.all W ((Y1.refl _ w).below hb)).2.1)
 unfold pkV Y1a at CDO CV CR ⊢
 simp only[hn]at t1 hW1 cR CDO CV CR ⊢
 have HNW:=hid hn
 have HT0:=hid hT0
 have HE:=hid hE
 have HOP:=hid hop
 clear h hp hV hp0 hp1 V1 hpd B1 G1 cdo hT0 hcl hE hn hop
 go_enter func17,ntmps17
 go_wp2_with fail
 go_at_call 64
 refine cR.out.mono ?_
 rintro e w2 ⟨rfl,hb2⟩
 obtain⟨W4,W5,W6,m1,m2,m3,hb6,z6,lk⟩:=Y59 w2 (fnV g 65) (fnV g 66) (fnV g 67)
 have lkp:=lk p.op o0 o1
 rw[hlk]at lkp
 unfold fnV at m1 m2 m3 lkp
 clear lk hlk
 have b6:=(b1.trans (hb2.mono b1.size)).trans (hb6.mono (b1.trans (hb2.mono b1.size)).size)
 have q6:=hb2.trans (hb6.mono hb2.size)
 have B6:=HB1.out.below q6
 have t0:=(B6.cell 0).trans (rfl:_=some (Value.int .i64 p.op))
 have t1:=(B6.cell 1).trans (show _=some (Value.bool false) by rw[show(pkC p (.slice va p.vs.length vc) (.slice aa p.n ac))[1]?=some (Value.bool p.now)from rfl,HNW.out])
 have t2:=(B6.cell 2).trans (rfl:_=some (Value.int .i64 p.flags))
 have t3:=(B6.cell 3).trans (rfl:_=some (Value.slice va p.vs.length vc))
 have t4:=(B6.cell 4).trans (rfl:_=some (Value.slice aa p.n ac))
 have t5:=(B6.cell 5).trans (rfl:_=some (Value.string (bs p.d)))
 have F6:=HH.out.below b6
 have s11:=(F6.blk.cell 11).trans (rfl:_=some (Value.int .u32 s.cmd))
 have K6:Y1 (fun k=>B≤k) w W6:=(Y1.refl _ w).below b6
 have hz6:=q6.size
 have b0_:=(B6.cell 0).trans (rfl:_=some (Value.int .i64 p.op))
 have r0:=(HB1.out.below hb2).cell 0
 have r0:=r0.trans (rfl:_=some (Value.int .i64 p.op))
 have cvS: ∀ (name:List UInt8) (W:World),(W.cell? ⟨w.heap.size,0,none⟩=some (.int .i64 p.op)∧W.cell? ⟨w.heap.size,1,none⟩=some (.bool false)∧W.cell? ⟨w.heap.size,2,none⟩=some (.int .i64 p.flags)∧W.cell? ⟨w.heap.size,3,none⟩=some (.slice va p.vs.length vc)∧W.cell? ⟨w.heap.size,4,none⟩=some (.slice aa p.n ac)∧W.cell? ⟨w.heap.size,5,none⟩=some (.string (bs p.d))∧W.cell? ⟨g,11,none⟩=some (.int .u32 s.cmd)∧Below W6.heap.size W6 W)→Hid (Calls prog 69 #[.agg #[.int .i64 p.op,.bool false,.int .i64 p.flags,.slice va p.vs.length vc,.slice aa p.n ac,.string (bs p.d)],.string (bs name)] W fun e w'=>e= .returned (.int .u64 (p.v name:Nat))∧w'.cell? ⟨w.heap.size,0,none⟩=some (.int .i64 p.op)∧w'.cell? ⟨w.heap.size,1,none⟩=some (.bool false)∧w'.cell? ⟨w.heap.size,2,none⟩=some (.int .i64 p.flags)∧w'.cell? ⟨w.heap.size,3,none⟩=some (.slice va p.vs.length vc)∧w'.cell? ⟨w.heap.size,4,none⟩=some (.slice aa p.n ac)∧w'.cell? ⟨w.heap.size,5,none⟩=some (.string (bs p.d))∧w'.cell? ⟨g,11,none⟩=some (.int .u32 s.cmd)∧Below W6.heap.size W6 w'):=by
  rintro name W ⟨i0,i1,i2,i3,i4,i5,i11,iB⟩
  refine hid ((CV name W (K6.below iB)).out.mono ?_)
  rintro e w' ⟨he,hb⟩
  exact⟨he,(hb.cell (Yeb i0)).trans i0,(hb.cell (Yeb i1)).trans i1,(hb.cell (Yeb i2)).trans i2,(hb.cell (Yeb i3)).trans i3,(hb.cell (Yeb i4)).trans i4,(hb.cell (Yeb i5)).trans i5,(hb.cell (Yeb i11)).trans i11,iB.trans (hb.mono iB.size)⟩
 have hS0:W6.drew.cell? ⟨w.heap.size,0,none⟩=some (.int .i64 p.op)∧W6.drew.cell? ⟨w.heap.size,1,none⟩=some (.bool false)∧W6.drew.cell? ⟨w.heap.size,2,none⟩=some (.int .i64 p.flags)∧W6.drew.cell? ⟨w.heap.size,3,none⟩=some (.slice va p.vs.length vc)∧W6.drew.cell? ⟨w.heap.size,4,none⟩=some (.slice aa p.n ac)∧W6.drew.cell? ⟨w.heap.size,5,none⟩=some (.string (bs p.d))∧W6.drew.cell? ⟨g,11,none⟩=some (.int .u32 s.cmd)∧Below W6.heap.size W6 W6.drew:=⟨t0,t1,t2,t3,t4,t5,s11,(Yea _ _).drew⟩
 have HF6:=hid F6;have HB6:=hid B6;have HK6B:=hid K6
 clear F6 K6 B6 b0_ r0
 go_upto_region 11 with fail
 go_region_held3 (fun w'=>w'.cell? ⟨w.heap.size,0,none⟩=some (.int .i64 p.op)∧w'.cell? ⟨w.heap.size,1,none⟩=some (.bool false)∧w'.cell? ⟨w.heap.size,2,none⟩=some (.int .i64 p.flags)∧w'.cell? ⟨w.heap.size,3,none⟩=some (.slice va p.vs.length vc)∧w'.cell? ⟨w.heap.size,4,none⟩=some (.slice aa p.n ac)∧w'.cell? ⟨w.heap.size,5,none⟩=some (.string (bs p.d))∧w'.cell? ⟨g,11,none⟩=some (.int .u32 s.cmd)∧Below W6.heap.size W6 w')
  (first | exact hS0 | assumption | exact⟨by assumption,by assumption,by assumption,by assumption,by assumption,by assumption,by assumption,by assumption⟩)
  (first | (go_at_call 69;refine(cvS Y1d _ ?_).out.mono ?_;(first | exact hS0 | assumption | exact⟨by assumption,by assumption,by assumption,by assumption,by assumption,by assumption,by assumption,by assumption⟩);rintro e w7 ⟨rfl,c0,c1,c2,c3,c4,c5,c11,cB⟩))
 have b7:=b6.trans (cB.mono b6.size)
 have K7:Y1 (fun k=>B≤k) w w7:=HK6B.out.below cB
 have F7:=HF6.out.below cB
 have HK7:=hid ((Y1.refl (SF g gp gn rv) w).below b7)
 by_cases hmis:(p.v Y1d:Int)=s.cmd
 ·have hme:((p.v Y1d:Int) !=s.cmd)=false:=by rw[Ygk];exact hmis
  have hT1:Yu c s p=if Y1v p=false then((doP c {s with cmd:=up1 s.cmd} p).1,(doP c {s with cmd:=up1 s.cmd} p).2,0)else((doP c s p).1,(doP c s p).2,0):=by rw[HT0.out,Yed (fun e=>e hmis)]
  have hq:Y1v p=false:=by unfold Y1v;rw[HOP.out];rfl
  have hTK:Yu c s p=((doP c {s with cmd:=up1 s.cmd} p).1,(doP c {s with cmd:=up1 s.cmd} p).2,0):=by rw[hT1,Yei hq]
  have HTK:=hid hTK
  have hop1:(p.op !=0)=true:=by rw[HOP.out];rfl
  clear hmis hTK hT1 hq
  have G7:=F7.blk
  have f11:=G7.free 11
  have hwc:IntKind.u32.wrap (s.cmd+1)=up1 s.cmd:=by rw[Yfo];rfl
  obtain⟨W8,hW8⟩: ∃W8,w7.setCell ⟨g,11,none⟩ (.int .u32 (up1 s.cmd))=W8:=⟨_,rfl⟩
  have K8:Y1 (fun k=>k=g) w7 W8:=by rw[←hW8];exact(Y1.refl _ w7).set _ _ (.inl rfl)
  have G8:Blk W8 g 82 (Y14 (.pointer (some ⟨gn,0,none⟩)) ta ga ua oa sn ss lim c.name c.disc s.stat (up1 s.cmd) (.pointer (some ⟨gp,0,none⟩)) lv s.closed):=by rw[←hW8];exact G7.set 11 _
  have F8:=F7.own K8 s.stat (up1 s.cmd) lv s.left s.closed G8 (F7.lft.kept K8 (fun b cs hb e=>by
   have e:b=g:=e
   subst e
   exact Ym hb F7.blk (by decide) rfl)) F7.s0 F7.s1 (by unfold up1;omega) (by unfold up1;omega) (by decide) (by decide) (by decide)
  have B8:Blk W8 w.heap.size 63 (pkC p (.slice va p.vs.length vc) (.slice aa p.n ac)):=K8.blk (HB6.out.below cB) (show ¬w.heap.size=g by omega)
  have t0:=(B8.cell 0).trans (rfl:_=some (Value.int .i64 p.op))
  have t1:=(B8.cell 1).trans (show _=some (Value.bool false) by rw[show(pkC p (.slice va p.vs.length vc) (.slice aa p.n ac))[1]?=some (Value.bool p.now)from rfl,HNW.out])
  have t2:=(B8.cell 2).trans (rfl:_=some (Value.int .i64 p.flags))
  have t3:=(B8.cell 3).trans (rfl:_=some (Value.slice va p.vs.length vc))
  have t4:=(B8.cell 4).trans (rfl:_=some (Value.slice aa p.n ac))
  have t5:=(B8.cell 5).trans (rfl:_=some (Value.string (bs p.d)))
  have cd:=hid (CDO.out W8 (up1 s.cmd) (.inr rfl) F8 (K7.trans K8 (fun i hi=> .inl (by have hi:i=g:=hi;omega))))
  have HK8:=hid (HK7.out.trans K8 (fun i hi=> .inl (.inl hi)))
  clear F7 K7 CV CR CDO cvS hS0 G7 K8 G8 F8 B8
  go_wp2_with fail
  refine cd.out.mono ?_
  rintro e wz ⟨v,rv',lv',rfl,ha,hf,hr,hk⟩
  go_wp2
  go_ret2
  rw[HTK.out]
  exact⟨_,rv',lv',rfl,ha,hf,(by rcases hr with h1 | ⟨q,h1,h2⟩;exact .inl h1;exact .inr ⟨q,h1,Yeu HK8.out.size h2⟩),HK8.out.trans hk (fun i hi=> .inl hi)⟩
 ·have hme:((p.v Y1d:Int) !=s.cmd)=true:=by simp[hmis]
  have hTK:Yu c s p=((Y34 s p 4).1,(Y34 s p 4).2,0):=by rw[HT0.out,Yei hmis]
  have HTK:=hid hTK
  have cr:=CR w7 b7
  clear hmis hTK F7 K7 CV CR CDO cvS hS0
  go_wp2_with fail
  go_at_call 68
  refine cr.out.mono ?_
  rintro e wz ⟨v,rfl,ha,hf,hk⟩
  go_wp2
  go_ret2
  rw[HTK.out]
  exact⟨_,rv,lv,rfl,ha,hf,.inl rfl,HK7.out.trans hk (fun i hi=> .inl (.inl hi))⟩
theorem Yat(p:PK)(v av:Value)(h:Yl 82 215 127 w B g gp gn ov rv lv ta ga ua oa sn ss lim c s)(hp:Y1Y B w p v av)(hV:Env B w)(hcl:s.closed=false)(hE:Y2L p.op p.now p.flags p.vs p.n p.I p.d=0)(h0:p.op≠0)(h4:p.op≠4)(h6:p.op≠6):
 Calls prog 17 #[.pointer (some ⟨g,0,none⟩),pkV p v av] w fun e w'=>Y29 82 215 127 w B g gp gn ov rv ta ga ua oa sn ss lim c (Yu c s p) (errV 36) e w':=by
 refine Z4y ?_;intro hp0;obtain⟨⟨va,vc,rfl⟩,aa,ac,rfl⟩:=hp0.forms;refine Z5 ?_;intro W1 b1 B1 hgl hgB z1 K1 V1 hp1 hpd G1 s14 t0 t1 t2 t3 t4 t5 hW1 cR hmm hmf;refine Z3h ?_;clear cR s14;intro cR s14 HH HP HV HB1 o0 o1;have hlk:(if p.op=0 then Value.tuple #[fnV g 65,.bool true]else if p.op=4 then .tuple #[fnV g 66,.bool true]else if p.op=6 then .tuple #[fnV g 67,.bool true]else .tuple #[.nilFunc,.bool false])= .tuple #[.nilFunc,.bool false]:=by rw[Yed h0,Yed h4,Yed h6]
 have hTK:Yu c s p=((Y34 s p 5).1,(Y34 s p 5).2,0):=by
  unfold Yu;rw[Yed Z2E,Yed (fun e=>e hE),Yei ⟨h0,h4,h6⟩]
 have HTK:=hid hTK;have CR:=fun(W:World) (hb:Below w.heap.size w W)=>hid (Y1J p _ _ 5 (h.below hb) (hp W ((Y1.refl _ w).below hb)) hE Z7 Z7 (hV.all W ((Y1.refl _ w).below hb)).1 (hV.all W ((Y1.refl _ w).below hb)).2.1)
 unfold pkV Y1a at CR ⊢;clear h hp hV hp0 hp1 V1 hpd B1 G1 hTK hcl hE h0 h4 h6;go_enter func17,ntmps17;go_wp2_with fail;go_at_call 64;refine cR.out.mono ?_;rintro e w2 ⟨rfl,hb2⟩;obtain⟨W4,W5,W6,m1,m2,m3,hb6,z6,lk⟩:=Y59 w2 (fnV g 65) (fnV g 66) (fnV g 67);have lkp:=lk p.op o0 o1;rw[hlk]at lkp;unfold fnV at m1 m2 m3;clear lk hlk;refine Z4Y ?_;intro b6 q6 B6 t0;have t1:=(B6.cell 1).trans (rfl:_=some (Value.bool p.now))
 refine Z1A ?_;intro t2 t3 t4 t5 F6 s11 K6 hz6 b0_ r0;have cr:=CR W6 b6;have HK6:=hid ((Y1.refl (SF g gp gn rv) w).below b6);clear F6 K6 B6 CR;go_wp2_with fail;go_at_call 68;refine cr.out.mono ?_;rintro e wz ⟨v,rfl,ha,hf,hk⟩;go_wp2;go_ret2;rw[HTK.out];exact⟨_,rv,lv,rfl,ha,hf,.inl rfl,HK6.out.trans hk (fun i hi=> .inl (.inl hi))⟩
end
section
variable {w:World}{B g gp gn:Nat}{ov rv lv:Value}{sn ss:List UInt8}{lim:Int}{c:FCf}{s:FSt}{us:PL}{ta ga ua oa:Option Addr}{tc gc uc oc:Nat}
structure Ye4(c:FCf)(s:FSt)(p:PK):Prop where
 ask:AskOk c s p
 rl: ∀k,(s.rc.getD k ([],[])).2.length≤100000
theorem YdE(p:PK)(v av:Value)(h:Yl 82 215 127 w B g gp gn ov rv lv (.slice ta c.ts.length tc) (.slice ga c.gs.length gc) (.slice ua us.length uc) (.slice oa c.own.length oc) sn ss lim c s)
 (hC:Y4f B w c us sn ss lim (.slice ta c.ts.length tc) (.slice ga c.gs.length gc) (.slice ua us.length uc) (.slice oa c.own.length oc)) (ht:c.ts.length≤2500) (hgs:c.gs.length≤2500) (hO:Ye4 c s p) (hp:Y1Y B w p v av) (hV:Env B w):
 Calls prog 17 #[.pointer (some ⟨g,0,none⟩),pkV p v av] w fun e w'=>Y29 82 215 127 w B g gp gn ov rv (.slice ta c.ts.length tc) (.slice ga c.gs.length gc) (.slice ua us.length uc) (.slice oa c.own.length oc) sn ss lim c (Yu c s p) (errV 36) e w':=by
 by_cases hx:s.closed=true∨Y2L p.op p.now p.flags p.vs p.n p.I p.d≠0
 ·exact Yau p v av h hp hV hx
 refine Z4w ?_;intro hcl hE;clear hx;have dn:p.op=0→ ∀W cm,Yl 82 215 127 W B g gp gn ov rv lv (.slice ta c.ts.length tc) (.slice ga c.gs.length gc) (.slice ua us.length uc) (.slice oa c.own.length oc) sn ss lim c {s with cmd:=cm}→Y1 (fun k=>B≤k) w W→
  Calls prog 65 #[.pointer (some ⟨g,0,none⟩),pkV p v av] W fun e w'=>Y2a 82 215 127 W B g gp gn ov rv (.slice ta c.ts.length tc) (.slice ga c.gs.length gc) (.slice ua us.length uc) (.slice oa c.own.length oc) sn ss lim c (doP c {s with cmd:=cm} p) e w':=by
  intro hop W cm hF hK;have hd:doP c {s with cmd:=cm} p=nopP {s with cmd:=cm} p:=by unfold doP;rw[Yei hop]
  rw[hd];exact(fnop_any p v av hF (by have:=hO.ask.rl;exact Zt) hO.rl (hp.kept hK) hE (hV.kept hK)).mono fun e w' hh=>hh.all (Y1.refl _ _) (.inl rfl)
 have da:p.op=4→ ∀W cm,Yl 82 215 127 W B g gp gn ov rv lv (.slice ta c.ts.length tc) (.slice ga c.gs.length gc) (.slice ua us.length uc) (.slice oa c.own.length oc) sn ss lim c {s with cmd:=cm}→Y1 (fun k=>B≤k) w W→
  Calls prog 66 #[.pointer (some ⟨g,0,none⟩),pkV p v av] W fun e w'=>Y2a 82 215 127 W B g gp gn ov rv (.slice ta c.ts.length tc) (.slice ga c.gs.length gc) (.slice ua us.length uc) (.slice oa c.own.length oc) sn ss lim c (doP c {s with cmd:=cm} p) e w':=by
  intro hop W cm hF hK;have hd:doP c {s with cmd:=cm} p=Ybl c {s with cmd:=cm} p:=by unfold doP;rw[Yed Z7,Yei hop]
  rw[hd];by_cases htg:p.v YB=Y26
  ·exact fask_txt p v av hF (hC.kept hK) ht hgs ⟨hO.ask.rl,hO.ask.ol,hO.ask.sz,hO.ask.il,hO.ask.of_,hO.ask.r1,hO.ask.r2,hO.ask.o1,hO.ask.se,hO.ask.pb,hO.ask.pl⟩ (hp.kept hK) hE (hV.kept hK) htg
  ·exact fask_tag p v av hF (hp.kept hK) hE (hV.kept hK) htg
 have do_:p.op=6→ ∀W cm,Yl 82 215 127 W B g gp gn ov rv lv (.slice ta c.ts.length tc) (.slice ga c.gs.length gc) (.slice ua us.length uc) (.slice oa c.own.length oc) sn ss lim c {s with cmd:=cm}→Y1 (fun k=>B≤k) w W→
  Calls prog 67 #[.pointer (some ⟨g,0,none⟩),pkV p v av] W fun e w'=>Y2a 82 215 127 W B g gp gn ov rv (.slice ta c.ts.length tc) (.slice ga c.gs.length gc) (.slice ua us.length uc) (.slice oa c.own.length oc) sn ss lim c (doP c {s with cmd:=cm} p) e w':=by
  intro hop W cm hF hK;have hd:doP c {s with cmd:=cm} p=Ydp {s with cmd:=cm} p:=by unfold doP;rw[Yed Z7,Yed Z7]
  rw[hd];exact(fout_any p v av hF (hp.kept hK) hE (hV.kept hK)).mono fun e w' hh=>hh.all (Y1.refl _ _) (.inl rfl)
 by_cases h0:p.op=0
 ·cases hn:p.now with
  | true=>exact Y8j p v av h hp hV hcl hE h0 hn (fun W hF hK=>dn h0 W s.cmd hF hK)
  | false=>exact Y8m p v av h hp hV hcl hE h0 hn (fun W cm _ hF hK=>dn h0 W cm hF hK)
 by_cases h4:p.op=4
 ·cases hn:p.now with
  | true=>exact Y8k p v av h hp hV hcl hE h4 hn (fun W hF hK=>da h4 W s.cmd hF hK)
  | false=>exact Y8n p v av h hp hV hcl hE h4 hn (fun W cm _ hF hK=>da h4 W cm hF hK)
 by_cases h6:p.op=6
 ·cases hn:p.now with
  | true=>exact Y8i p v av h hp hV hcl hE h6 hn (fun W hF hK=>do_ h6 W s.cmd hF hK)
  | false=>exact Y8l p v av h hp hV hcl hE h6 hn (fun W cm _ hF hK=>do_ h6 W cm hF hK)
 exact Yat p v av h hp hV hcl hE h0 h4 h6
end
end
end Go.Proofs.YtfadikchijkcfaaGreatDoor
