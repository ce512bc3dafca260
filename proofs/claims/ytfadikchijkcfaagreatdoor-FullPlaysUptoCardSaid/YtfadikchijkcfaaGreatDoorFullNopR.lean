/- What is small enough behind a login: plain laws. -/
import Derived.Test.YtfadikchijkcfaaGreatDoorParsePure
import Derived.Test.YtfadikchijkcfaaGreatDoorFullTake
import Derived.Test.YtfadikchijkcfaaGreatDoorBothN
import Derived.Test.YtfadikchijkcfaaGreatDoorHeadMkR
import Derived.Test.YtfadikchijkcfaaGreatDoorTCrowd
import Derived.Test.YtfadikchijkcfaaGreatDoorFullPiece
import Derived.Test.YtfadikchijkcfaaGreatDoorFullRefR
import Derived.Test.YtfadikchijkcfaaGreatDoorSame
import Derived.StillTailTactics
set_option linter.unusedVariables false
set_option linter.unusedSectionVars false
set_option linter.unusedSimpArgs false
set_option maxRecDepth 100000
set_option maxHeartbeats 4000000
namespace Go.Proofs.YtfadikchijkcfaaGreatDoor
section
open Go Go.RowKit
def Y3V(l:PL)(M:Nat):Prop:= ∀y∈l,y.1.length≤M∧y.2.length≤M
theorem getD_mem{α:Type}{l:List α}{k:Nat}{d:α}(h:k<l.length):l.getD k d∈l:=by
 rw[List.getD,Yec h];exact YfD h
theorem Y3V.at{l:PL}{M:Nat}(h:Y3V l M)(k:Nat):(l.getD k ([],[])).1.length≤M∧(l.getD k ([],[])).2.length≤M:=by
 rcases YeU k l.length with hk | hk
 ·exact h _ (getD_mem hk)
 ·rw[List.getD,Yfq hk];exact Z2t
theorem Y3V.pbd{l:PL}{M:Nat}(h:Y3V l M)(hM:M≤9223372036854775807)(hl:l.length≤9223372036854775807):PBd l:=
 ⟨hl,fun k=>by have:=h.at k;omega⟩
theorem Y3V.app{l m:PL}{M:Nat}(h:Y3V l M)(k:Y3V m M):Y3V (l ++ m) M:=fun y hy=>(YfN.1 hy).elim (h y) (k y)
theorem Y3V.mono{l:PL}{M N:Nat}(h:Y3V l M)(hM:M≤N):Y3V l N:=fun y hy=>by have:=h y hy;omega
theorem Ydk(l:List UInt8):Yct l≤1099511627775:=by
 unfold Yct
 cases h:Y7p l with
 | none=>simp
 | some a=>exact Y88 l a h
theorem Y6N(has:List (List UInt8))(M:Nat): ∀ (l:List (List UInt8)),(∀x∈l,x.length≤M)→(Y1W has l).1.length≤M
 | [],_=>by simp[Y1W]
 | x :: l,h=>by
  rw[Y1W]
  split
  ·exact h x (by simp)
  ·exact Y6N has M l fun y hy=>h y (by simp[hy])
theorem resK_len(k:KR)(offer own:List UInt8):(resK k offer own).1.length≤offer.length+30:=by
 have h1:=Ydk offer;have h2:=Ydk own;unfold resK
 split
 ·simp only
  split<;>simp[Y5j,noL]
 ·split
  ·simp only
   split<;>simp[Y5j,noL]
  ·split
   ·have:=Lib.itoa_length_le (min (Yct offer:Int) (Yct own:Int)) Z7 Z7;exact Zt
   ·split
    ·have:=Lib.itoa_length_le (max (Yct offer:Int) (Yct own:Int)) Z7 Z7;exact Zt
    ·split
     ·exact Yeu (Y6N _ offer.length _ (Y5l 44 offer)) Z7
     ·exact Z2t
theorem resP_len(name offer own:List UInt8):(Y75 name offer own).1.length≤offer.length+30:=by
 unfold Y75
 split
 ·exact Z2t
 ·split
  ·exact Z2t
  ·split
   ·exact Z2t
   ·exact resK_len _ _ _
theorem ansP_len(mine:PL)(x:List UInt8×List UInt8)(login disc:Bool):(Y69 mine x login disc).1.length≤x.2.length+30∧(Y69 mine x login disc).2.length≤x.2.length+30:=by
 have hr:=resP_len x.1 x.2 (ofP mine x.1).1;unfold Y69
 split
 ·exact Z2t
 ·split
  ·exact Z2t
  ·split
   ·exact Z2t
   ·split
    ·exact Z2t
    ·split
     ·exact Z2t
     ·split
      ·exact Z2t
      ·exact⟨hr,hr⟩
theorem Yd0{r:PL}{x:List UInt8×List UInt8}{is:List UInt8}{M:Nat}(hr:Y3V r M)(h1:x.1.length≤M)(h2:is.length≤M):Y3V (recP r x is) M:=by
 unfold recP
 split
 ·exact hr
 ·refine Y3V.app (fun y hy=>hr y (YfR.1 hy).1) (fun y hy=> ?_);simp at hy;rw[hy];exact⟨h1,h2⟩
theorem Y6V(mine:PL)(login disc:Bool)(M:Nat): ∀ (l out r:PL),Y3V l M→Y3V out (M+30)→Y3V r (M+30)→Y3V (Y1x mine login disc l (out,r)).1 (M+30)∧Y3V (Y1x mine login disc l (out,r)).2 (M+30)
 | [],out,r,hl,ho,hr=>by rw[Y1x];exact⟨ho,hr⟩
 | x :: l,out,r,hl,ho,hr=>by
  rw[Y1x]
  have hx:=hl x (by simp)
  have ha:=ansP_len mine x login disc
  refine Y6V mine login disc M l _ _ (fun y hy=>hl y (by simp[hy])) ?_ (Yd0 hr (by omega) (by omega))
  split
  ·exact ho
  ·refine ho.app fun y hy=> ?_
   simp at hy
   rw[hy]
   exact⟨by simp only;omega,by simp only;omega⟩
theorem Y6w{l:PL}(h:(Yc l).1=0):Y3V l 255:=fun y hy=>by
 obtain⟨k,hk,rfl⟩:=YfF.1 hy
 have:=(Y39 l h).2.2 k
 rw[List.getD,Yec hk]at this
 simp only[Yf2]at this
 omega
theorem Y6z(own offers rec:PL)(login disc:Bool)(hr:Y3V rec 285):
 Y3V (Y2T own offers rec login disc).1 285∧Y3V (Y2T own offers rec login disc).2 285∧(Y2T own offers rec login disc).1.length≤60∧(Y2T own offers rec login disc).2.length≤rec.length+60:=by
 unfold Y2T
 split
 ·rename_i h0
  have hp:(Yc offers).1=0:=by
   by_cases hp:(Yc offers).1=0
   ·exact hp
   ·rw[Y5u _ _ _ hp]at h0;exact h0
  have h60:=(Y39 offers hp).2.1;have hs:=Y6w hp;have h1:=Y6V own login disc 255 offers [] rec hs (fun y hy=>by cases hy) hr;have h2:=Y9x own login disc 285 offers [] rec (fun y hy=>by have:=hs y hy;exact Z7) (fun y hy=>(hr y hy).1);simp only[YeV]at h2;exact⟨h1.1,h1.2,by omega,by omega⟩
 ·exact⟨fun y hy=>(by cases hy),hr,by simp,by simp⟩
theorem Ydf(f:Nat)(s:List UInt8)(i:Nat)(hi:i≤60):(YG f s i).1.length+i≤60∧Y3V (YG f s i).1 255:=by
 induction f generalizing s i with
 | zero=>refine⟨by simp[YG];omega,fun y hy=> ?_⟩;simp[YG]at hy
 | succ f ih =>
  have hn: ∀ (R:Nat×Int),(([],R):PL×Nat×Int).1.length+i≤60∧Y3V (([],R):PL×Nat×Int).1 255:=fun R=>⟨by simp;omega,fun y hy=>by cases hy⟩
  by_cases h0:s= []
  ·subst h0;rw[Y5s];exact hn _
  ·rw[Y4D f s i h0]
   split
   ·exact hn _
   ·split
    ·exact hn _
    ·split
     ·exact hn _
     ·split
      ·exact hn _
      ·split
       ·exact hn _
       ·rename_i hk hv
        have:=ih (Y1T 0 s).2.1 (i+1) Z7;refine⟨by simp;omega,fun y hy=> ?_⟩;rcases Yf0.1 hy with rfl | hy
        ·have h1:=Y9g (Y1T 61 (Y1T 0 s).1).1 (by simpa using hk);have h2:=Y6H (Y1T 61 (Y1T 0 s).1).2.1 (by simpa using hv);exact⟨by simp only;omega,by simp only;omega⟩
        ·exact this.2 y hy
theorem Yas(m:Nat)(t s:List UInt8)(Y2N:Bool):(Y18 m t s Y2N).2.1.length≤60∧Y3V (Y18 m t s Y2N).2.1 255:=by
 have hn:([]:PL).length≤60∧Y3V [] 255:=⟨by simp,fun y hy=>by cases hy⟩;unfold Y18
 split
 ·exact hn
 ·split
  ·exact hn
  ·simp only
   split
   ·have:=Ydf ((t ++ s).length+1) (t ++ s) 0 Z7;exact⟨by omega,this.2⟩
   ·exact hn
theorem YbG{l:PL}{M:Nat}(h:Y3V l M):Y3V (Y19 l) M:=by
 induction l with
 | nil=>exact h
 | cons x l ih =>
  have hl:Y3V l M:=fun y hy=>h y (by simp[hy])
  unfold Y19
  split
  ·exact ih hl
  ·intro y hy;rcases Yf0.1 hy with rfl | hy
   ·exact h _ Z2t
   ·exact ih hl y hy
structure FBnd(c:FCf):Prop where
 ol:c.own.length≤10000
 os:Y3V c.own 10000
 tl:c.ts.length≤2500
 gl:c.gs.length≤2500
 ts: ∀t∈c.ts,t.length≤10000
 gs: ∀g∈c.gs,g.1.length≤10000∧ -9223372036854775808≤g.2∧g.2≤9223372036854775807
theorem Yam{c:FCf}(h:FBnd c)(name:List UInt8)(all:Bool):Y3V (Yy c.gs name all c.ts) 20000:=by
 intro y hy;unfold Yy at hy;obtain⟨t,ht,hy⟩:=List.mem_flatMap.1 hy
 split at hy
 ·rcases Yf0.1 hy with rfl | hy
  ·have:=h.ts t ht;exact⟨by simp[Y1f],by simp only;omega⟩
  ·obtain⟨g,hg,rfl⟩:=Yg4.1 hy;have:=h.gs g hg;have hi:=Lib.itoa_length_le g.2 this.2.1 this.2.2;unfold YT;refine⟨by simp[Y6X],?_⟩;simp only[Yem,YeH,YeV];exact Z7
 ·cases hy
theorem Y6j{c:FCf}(h:FBnd c)(v:List UInt8):(Y4A c v).length≤7000000∧Y3V (Y4A c v) 20000:=by
 unfold Y4A;have h1:=fun nm=>Y2U c.gs nm (decide (v=Y1S)) c.ts
 generalize (if v= []then c.name else v)=nm
 split
 ·refine⟨by simp,fun y hy=> ?_⟩;simp at hy;rw[hy];exact⟨by simp[Y1s],by simp[Y6h]⟩
 ·refine⟨?_,Yam h _ _⟩;have h1:=h1 nm;have h2:c.ts.length * (1+c.gs.length)≤2500 * 2501:=Ygg h.tl (by have:=h.gl;exact Z7);exact Z7
theorem Y6k{c:FCf}(h:FBnd c): ∀ (l:PL),(Y1C c l).length≤l.length * 7000000∧Y3V (Y1C c l) 20000
 | []=>⟨by simp[Y1C],fun y hy=>by simp[Y1C]at hy⟩
 | x :: l=>by
  have ih:=Y6k h l
  have hs:=Y6j h x.2
  rw[Y1C]
  split
  ·refine⟨?_,hs.2.app ih.2⟩
   rw[Yem,YeH,YfI]
   omega
  ·refine⟨?_,ih.2⟩
   rw[YeH,YfI]
   omega
theorem Y5M: ∀ (l:PL),Y3V l 255→(Y1H l).length≤512 * l.length
 | [],_=>by simp[Y1H]
 | x :: l,h=>by
  have ih:=Y5M l fun y hy=>h y (by simp[hy])
  have hx:=h x (by simp)
  rw[Y1H]
  simp only[Yem,YeH,YeV]
  omega
structure Y8M(s:FSt)(n:Nat):Prop where
 rl:s.rc.length≤n
 rs:Y3V s.rc 285
theorem takeOk{c:FCf}{s:FSt}{n:Nat}(hc:FBnd c)(hs:Y8M s n)(hn:n≤90000)(p:PK):Ye4 c s p:=by
 have hg:=Yas 8192 s.text p.d (Y1V p.flags);have hr:=YcX (inP s p);have hg1:(inP s p).length≤60:=hg.1;have hrs:Y3V (Y19 (inP s p)) 255:=YbG hg.2;have ho:=Y6z c.own (Y19 (inP s p)) s.rc false c.disc hs.rs;have hd:=Y6k hc (inP s p);have hrl:=hs.rl;have h60:(inP s p).length * 7000000≤60 * 7000000:=Nat.mul_le_mul_right _ hg1;have hpb:Y3V (Y1C c (inP s p) ++ (Y2T c.own (Y19 (inP s p)) s.rc false c.disc).1) 20000:=hd.2.app (ho.1.mono Z7)
 exact⟨⟨by omega,by have:=hc.ol;omega,fun k=>by have:=hc.os.at k;omega,hg1,hrs.pbd (by omega) (by omega),by omega,fun k=>by have:=ho.2.1.at k;omega,by omega,fun x _=>(Y6j hc x.2).1,
  hpb.pbd (by omega) (by rw[Yem];omega),fun h0=>by
   have h1:=Y5M _ (Y6w h0);have h2:=(Y39 _ h0).2.1
   omega⟩,fun k=>by have:=hs.rs.at k;omega⟩
theorem YaW{s:FSt}{n:Nat}(p:PK)(h:Y8M s n):Y8M (Y7m s p).1 n:=by
 unfold Y7m
 split
 ·exact h
 ·exact⟨h.rl,h.rs⟩
theorem Y4i{s:FSt}{n:Nat}(p:PK)(r:Int)(h:Y8M s n):Y8M (Y34 s p r).1 n:=⟨h.rl,h.rs⟩
theorem Y8M.mono{s:FSt}{n m:Nat}(h:Y8M s n)(hm:n≤m):Y8M s m:=⟨by have:=h.rl;omega,h.rs⟩
theorem txtP_inv{c:FCf}{s:FSt}{n:Nat}(p:PK)(Y2N last:Bool)(h:Y8M s n):Y8M (Y5T c s p Y2N last).1 (n+60):=by
 have ho:=Y6z c.own (Y19 (Y18 8192 s.text p.d Y2N).2.1) s.rc false c.disc h.rs;have hrl:=h.rl;unfold Y5T
 split
 ·exact Y4i p 4 ⟨by show s.rc.length≤n+60;omega,h.rs⟩
 ·split
  ·exact⟨by show s.rc.length≤n+60;omega,h.rs⟩
  ·split
   ·exact Y4i p 4 ⟨by show s.rc.length≤n+60;omega,h.rs⟩
   ·split
    ·exact Y4i p 4 ⟨by show(Y2T c.own _ s.rc false c.disc).2.length≤n+60;omega,ho.2.1⟩
    ·exact YaW p ⟨by show(Y2T c.own _ s.rc false c.disc).2.length≤n+60;omega,ho.2.1⟩
theorem askP_inv{c:FCf}{s:FSt}{n:Nat}(p:PK)(h:Y8M s n):Y8M (Ybl c s p).1 (n+60):=by
 unfold Ybl
 split
 ·split
  ·exact(Y4i p 4 h).mono Z7
  ·exact(YaW p h).mono Z7
 ·exact txtP_inv p _ _ h
theorem YdN{c:FCf}{s:FSt}{n:Nat}(p:PK)(h:Y8M s n):Y8M (doP c s p).1 (n+60):=by
 unfold doP
 split
 ·unfold nopP
  split
  ·exact h.mono Z7
  ·exact⟨by have:=h.rl;show s.rc.length≤n+60;omega,h.rs⟩
 ·split
  ·exact askP_inv p h
  ·exact⟨by have:=h.rl;show s.rc.length≤n+60;omega,h.rs⟩
theorem Ycz{c:FCf}{s:FSt}{n:Nat}(p:PK)(h:Y8M s n):Y8M (Yu c s p).1 (n+60):=by
 unfold Yu
 split
 ·exact h.mono Z7
 ·split
  ·exact h.mono Z7
  ·split
   ·exact(Y4i p 5 h).mono Z7
   ·split
    ·exact(Y4i p 4 h).mono Z7
    ·split
     ·exact YdN p ⟨h.rl,h.rs⟩
     ·exact YdN p h
end
section
open Go.Proofs.Tryz
open Go Go.RowKit
def Ycu(w:World)(v:Value)(l:List An):Prop:=
 (l= []∧v= .slice none 0 0)∨ ∃x b va,l= [x]∧v= .slice (some ⟨b,0,none⟩) 1 1∧Blk w b 63 #[.int .i64 x.op,.bool false,.int .i64 x.flags,va,.slice none 0 0,.string (bs x.d)]∧Y9K w va x.vs.length x.vs
theorem Ycu.at{w:World}{v:Value}{l:List An}(h:Ycu w v l):Y74 w v l:=by
 rcases h with h | ⟨x,b,va,h1,h2,h3,h4⟩
 ·exact .inl h
 ·exact .inr ⟨x,b,va,h1,h2,h3,h4.sl⟩
theorem Y2S{w:World}{op flags:Int}{va:Value}{d:List UInt8}{vs:List Nat}(h:Y9K w va vs.length vs):
 Ycu (w.alloc (.cells #[.int .i64 op,.bool false,.int .i64 flags,va,.slice none 0 0,.string (bs d)] 63)) (.slice (some ⟨w.heap.size,0,none⟩) 1 1) [⟨op,flags,vs,d⟩]:=
 .inr ⟨_,w.heap.size,va,rfl,rfl,Blk.new _ _ _,h.below (Ye9 _) ((Yea _ _).alloc (Ye9 _) _)⟩
def Y1b(T TG TN:TypeId)(w:World)(B g gp gn:Nat)(ov rv ta ga ua oa:Value)(sn ss:List UInt8)(lim:Int)(c:FCf)(R:FSt×List An×Nat)(E:Nat→Value)(e:Ending)(w':World):Prop:=
 ∃v rv' lv',e= .returned (.tuple #[v,E R.2.2])∧Ycu w' v R.2.1∧Yl T TG TN w' B g gp gn ov rv' lv' ta ga ua oa sn ss lim c R.1∧(rv'.ownBlock=rv.ownBlock∨ ∃q,rv'.ownBlock=some q∧w.heap.size≤q)∧Y1 (SF g gp gn rv) w w'
abbrev YO:=Yl 75 143 84
section
variable (p:PK)(v av:Value)(w:World)(hp:PKIn w p v av)(hT:AS w)(hP:PT w)
include hp hT hP
theorem Y8Y(name:List UInt8):Calls prog 56 #[pkV p v av,.string (bs name)] w fun e w'=>e= .returned (.int .u64 (p.v name:Nat))∧Below w.heap.size w w':=by
 obtain⟨⟨va,vc,rfl⟩,aa,ac,rfl⟩:=hp.forms;refine Zc ?_;intro W1 hW1 b1 B1;have cv:=hid (rvalue_h p.op p.now p.flags _ p.vs name W1 hp.op0 hp.op1 hp.len (hp.vals.below (Ye9 _) b1) (hT.below b1 (Ye9 _)) (hP.below b1 (Ye9 _)));refine Zo ?_;intro t0 t1 t2 t3;unfold Y1A at cv;unfold pkC at hW1;unfold pkV Y1a PK.v;clear hp hT hP B1;go_enter func56,ntmps56;exact Z3X
end
section
variable {T TG TN:TypeId}{w w':World}{B g gp gn M:Nat}{ov rv lv ta ga ua oa:Value}{sn ss:List UInt8}{lim:Int}{c:FCf}{s:FSt}
theorem Yb0{es:Array MapEntry}{cl:Nat}(hm:w.heap[M]?=some (.map es cl)){b:Nat}{U:TypeId}{cs:Array Value}(h:Blk w b U cs):b≠M:=by
 rintro rfl;unfold Blk at h;rw[hm]at h
 cases h
theorem YbV{es:Array MapEntry}{cl:Nat}(hm:w.heap[M]?=some (.map es cl)){base n sz:Nat}{e:TypeId}{v:Value}{xs:List Value}(h:w.ownsRow base e sz v n xs):v.ownBlock≠some M:=by
 intro e;rcases h.2 with ⟨rfl,_⟩ | ⟨q,cap,cur,rfl,hb,hg,_⟩
 ·simp[Value.ownBlock]at e
 ·have hq:q=M:=by simpa[Value.ownBlock]using e
  subst hq;rw[hm]at hg
  cases hg
theorem map_far{es:Array MapEntry}{cl:Nat}(hm:w.heap[M]?=some (.map es cl)){v:Value}{l:PL}(h:PSl w v l):Y3h v l (fun k=>k=M):=by
 obtain⟨x,cap,rfl,hl,hc⟩:=h;rcases hc with h0 | ⟨b,o,rfl,hd⟩
 ·exact Z44
 ·by_cases hz:l.length=0
  ·exact .inl hz
  ·refine .inr ⟨b,o,_,_,rfl,fun e=> ?_⟩;have e:b=M:=e;subst e;have hlt:0< (Y0 l).length:=Z4s;have h2:=hd 0 _ (Yec hlt);simp only[World.cell?,hm]at h2
   cases h2
theorem Yl.ownM(h:Yl T TG TN w B g gp gn ov rv lv ta ga ua oa sn ss lim c s){es:Array MapEntry}{cl0:Nat}(hm:w.heap[M]?=some (.map es cl0))(K:Y1 (fun k=>k=g∨k=M) w w')(st cm:Int)(lv':Value)(l':List (List UInt8))(cl:Bool)
 (hB:Blk w' g T (Y14 (.pointer (some ⟨gn,0,none⟩)) ta ga ua oa sn ss lim c.name c.disc st cm (.pointer (some ⟨gp,0,none⟩)) lv' cl)) (hL:Y2p w' B lv' l') (s0:0≤st) (s1:st≤4294967295) (c0:0≤cm) (c1:cm≤4294967295)
 (n1:T≠TG) (n2:T≠TN) (n3:T≠78):Yl T TG TN w' B g gp gn ov rv lv' ta ga ua oa sn ss lim c {s with stat:=st,cmd:=cm,left:=l',closed:=cl}:=
 ⟨hB,K.blk h.gat (fun e=>e.elim (fun e=>Ym h.blk h.gat n1 e.symm) (fun e=>Yb0 hm h.gat e)),K.blk h.neg (fun e=>e.elim (fun e=>Ym h.blk h.neg n2 e.symm) (fun e=>Yb0 hm h.neg e)),
   h.hov.kept ((h.so.mono (T:=fun k=>k=g) fun k hk=> .inl hk).or (map_far hm h.hov)) K,Y2F K h.hrv (fun q hq e=>e.elim (fun e=>by
    have e:q=g:=e
    subst e
    exact Y41 h.hrv h.blk n3 hq) (fun e=>by
    have e:q=M:=e
    subst e
    exact YbV hm h.hrv hq)),h.sg,h.so,hL,h.gB,h.gpB,h.gnB,h.tl,s0,s1,c0,c1,h.cf⟩
theorem YbZ(h:Yl T TG TN w B g gp gn ov rv lv ta ga ua oa sn ss lim c s){es:Array MapEntry}{cl0:Nat}(hm:w.heap[M]?=some (.map es cl0))(K:Y1 (fun k=>k=g∨k=M) w w')(n4:T≠9){lv':Value}{l':List (List UInt8)}(hL:Y2p w B lv' l'):Y2p w' B lv' l':=
 hL.kept K (fun b cs hb e=>e.elim (fun e=>by
  have e:b=g:=e
  subst e
  exact Ym hb h.blk n4.symm rfl) (fun e=>Yb0 hm hb e))
end
section
variable {w:World}{B g gp gn M n:Nat}{ov rv lv ta ga ua oa:Value}{sn ss:List UInt8}{lim:Int}{c:FCf}{s:FSt}{gf:List UInt8→Nat}
theorem Y6p(h:YO w B g gp gn ov rv lv ta ga ua oa sn ss lim c s)(hr:s.rc.length≤1000000)(hrl: ∀k,(s.rc.getD k ([],[])).2.length≤100000)(hT:AS w)(hev:EV w)(hP:PT w):
 Calls prog 57 #[.pointer (some ⟨g,0,none⟩)] w fun e w'=>e= .returned (.int .i64 (Y1N s.rc))∧Below w.heap.size w w':=by
 have t0:=(h.blk.cell 0).trans (rfl:_=some (Value.pointer (some ⟨gn,0,none⟩)));have cv:=hid (YbK gn ov rv Y1t w h.neg Z16 s.rc (Yx h.hrv) Z7);have hl:=Y87 (key:=Y1t) hrl Z7;have cn:=fun W=>hid (Y4V (ofP s.rc Y1t).1 512 20000 W Z7 Z7 Z7 Z7 Z7)
 have hf:=Y5v (ofP s.rc Y1t).1;have hm:Y1N s.rc=if(Y1D (ofP s.rc Y1t).1 512 20000).2=0 then(Y1D (ofP s.rc Y1t).1 512 20000).1 else 20000:=rfl;generalize Y1N s.rc=Q at *;generalize Y1D (ofP s.rc Y1t).1 512 20000=R at *;obtain⟨R1,R2⟩:=R;simp only at *;generalize ofP s.rc Y1t=O at *;obtain⟨O1,O2⟩:=O;simp only at *;clear h hT hev hP;go_enter func57,ntmps57
 go_wp2_with fail;refine cv.out.mono ?_;rintro e w2 ⟨rfl,hb2⟩;go_wp2_with fail;refine(cn _).out.mono ?_;rintro e w3 ⟨rfl,hb3⟩;have hb:=hb2.trans (hb3.mono hb2.size);by_cases h0:R2=0
 ·rw[Yei h0]at hm;subst hm h0;clear hf;exact Z4g
 ·rw[Yed h0]at hm;subst hm;have hz:((R2:Int) !=0)=true:=Z3M;clear hf h0;exact Z4g
theorem Y1n.isMap{w:World}{M n:Nat}{gf:List UInt8→Nat}(h:Y1n w M n gf): ∃es cl,w.heap[M]?=some (.map es cl):=by
 obtain⟨D,_,⟨es,cl,hb,_⟩,_⟩:=h;exact⟨es,cl,hb⟩
def Y5A(op flags:Int)(data:List UInt8)(xs:List Nat)(M:Nat)(w:World)(B g gp gn:Nat)(ov rv lv ta ga ua oa:Value)(sn ss:List UInt8)(lim:Int)(c:FCf)(s:FSt)(e:Ending)(w':World):Prop:=
 ∃v,e= .returned (Y1a op false flags v (.slice none 0 0) data)∧Y9K w' v xs.length xs∧Y1 (fun k=>k=g∨k=M) w w'∧YO w' B g gp gn ov rv lv ta ga ua oa sn ss lim c {s with stat:=up1 s.stat}
theorem Y3I(op flags:Int)(data:List UInt8)(r:HR)(xs:List Nat)(h:YO w B g gp gn ov rv lv ta ga ua oa sn ss lim c s)(hM:Y1n w M n gf)(hn:n<900000)(hgf: ∀m,gf m≤18446744073709551615)(hr:Y1e op=some r)(hx:(r.fields.map fun f=>Y3H gf s.stat s.cmd f.name)=xs):
 Calls prog 58 #[.pointer (some ⟨g,0,none⟩),.int .i64 op,.int .i64 flags,.string (bs data),.map (some M)] w fun e w'=>Y5A op flags data xs M w B g gp gn ov rv lv ta ga ua oa sn ss lim c s e w':=by
 obtain⟨es,cl,hm⟩:=hM.isMap;have cs:=YcK g M n gf _ _ _ _ _ _ _ _ _ _ s.stat s.cmd _ _ _ op flags data r w h.blk hM hn hgf hr h.s0 h.s1 h.c0 h.c1 (Yb0 hm h.blk);refine cs.mono ?_;rw[hx];rintro e w' ⟨v,rfl,hown,hK,hB⟩;exact⟨v,rfl,Y5F hown,hK,h.ownM hm hK (up1 s.stat) s.cmd lv s.left s.closed hB (YbZ h hm hK Z16 h.lft) (by unfold up1;exact Z7) (by unfold up1;exact Z7) h.c0 h.c1 Z16 Z16 Z16⟩
def Ybr(w:World)(B g gp gn:Nat)(ov rv ta ga ua oa:Value)(sn ss:List UInt8)(lim:Int)(c:FCf)(R:FSt×List An)(e:Ending)(w':World):Prop:=
 ∃v lv',e= .returned (.tuple #[v,.int .i64 0])∧Ycu w' v R.2∧YO w' B g gp gn ov rv lv' ta ga ua oa sn ss lim c R.1∧Y1 (fun k=>k=g) w w'
theorem Y32(p:PK)(v av:Value)(reason:Int)(bp bf:Nat)(h:YO w B g gp gn ov rv lv ta ga ua oa sn ss lim c s)(hp:PKIn w p v av)(hE:Y2L p.op p.now p.flags p.vs p.n p.I p.d=0)(h0:0≤reason)(h1:reason≤255)
 (hbp:Blk w bp 63 (pkC p v av)) (hbf:w.cell? ⟨bf,0,none⟩=some (.pointer (some ⟨g,0,none⟩))):
 Calls prog 53 #[.int .i64 reason,.pointer (some ⟨bp,0,none⟩),.pointer (some ⟨bf,0,none⟩)] w fun e w'=>Ybr w B g gp gn ov rv ta ga ua oa sn ss lim c (Y34 s p reason) e w':=by
 obtain⟨⟨va,vc,rfl⟩,aa,ac,rfl⟩:=hp.forms;have cw:=hid (YbC p.op p.now p.flags _ p.vs 0 (p.d.length:Nat) w hp.op0 hp.op1 hp.fl0 hp.fl1 hp.len hp.fits hp.vals);have hlen:=Yda hE;have hR:Y34 s p reason=({s with stat:=up1 s.stat},[⟨63,128,Y4C reason s.stat s.cmd,(Y1F p.op p.now p.flags p.vs 0 (p.d.length:Nat)).1⟩]):=rfl;have t0:=(hbp.cell 0).trans (rfl:_=some (Value.int .i64 p.op));have t1:=(hbp.cell 1).trans (rfl:_=some (Value.bool p.now))
 have t2:=(hbp.cell 2).trans (rfl:_=some (Value.int .i64 p.flags));have t3:=(hbp.cell 3).trans (rfl:_=some (Value.slice va p.vs.length vc));have t5:=(hbp.cell 5).trans (rfl:_=some (Value.string (bs p.d)));have HF:=hid h;have cr:=fun W hd (hb:Below w.heap.size w W) (hl:hd.length=48)=>hid (Yac g _ _ _ _ _ _ _ _ _ _ s.stat s.cmd _ _ _ hd reason W (h.below hb).blk h.s0 h.s1 h.c0 h.c1)
 unfold Y5z Y1A YS at cw;rw[hR];generalize Y1F p.op p.now p.flags p.vs 0 (p.d.length:Nat)=WR at *;obtain⟨hd,k1,k2⟩:=WR;simp only at *;have hbfl:=Yeb hbf;clear hp hbp hR h;go_enter func53,ntmps53;go_wp2_with fail;refine cw.out.mono ?_;rintro e w2 ⟨rfl,hb2⟩;have b2:=hb2.alloc hb2.size (.cells #[.int .i64 k1,.int .i64 k2] 38);have tf:=(b2.cell hbfl).trans hbf;go_wp2_with fail
 refine(cr _ hd b2 hlen).out.mono ?_;unfold Y6b;rw[YcZ h0 h1 hlen];simp only[Yfw];rintro e w3 ⟨v,rfl,hsl,hK,hB3⟩;obtain⟨sa,sc,rfl,-⟩: ∃sa sc,v= .slice sa (Y4C reason s.stat s.cmd).length sc∧True:=Z14;unfold Y1a;refine Z2B ?_;intro K3 k4 hsl4;have hA:=Y2S (op:=63) (flags:=128) (d:=hd) hsl4;refine Z1t ?_;clear hA hsl hsl4 k4 K3 hK hB3 cr cw hb2 b2;intro HA HF5 HK;go_wp2_with fail
 go_ret2;exact⟨_,_,rfl,HA.out,HF5.out,HK.out⟩
end
end
section
open Go.Proofs.Tryz
open Go Go.RowKit
theorem Ydm(W:World)(X T:Nat)(hX:X≤18446744073709551615)(hT:T≤18446744073709551615):
 ∃W3 W4,(Instr.mapUpdate 155 (.map (some W.heap.size)) (.string ⟨#[73,84,84]⟩) (.int .u64 (X:Int))).run prog (W.alloc (.map #[] 0))= .ok () W3∧
  (Instr.mapUpdate 155 (.map (some W.heap.size)) (.string ⟨#[84,84,84]⟩) (.int .u64 (T:Int))).run prog W3= .ok () W4∧
  Y1n W4 W.heap.size 2 (Y2C (Y2C (fun _=>0) Ye X) YB T)∧Below W.heap.size W W4∧(∀m,Y2C (Y2C (fun _=>0) Ye X) YB T m≤18446744073709551615):=by
 obtain⟨W3,m3,N3,g3⟩:=Y1n.put (Y1n.made W) Z7 Ye Z16 X hX;obtain⟨W4,m4,N4,g4⟩:=Y1n.put N3 Z7 YB Z16 T hT;refine⟨W3,W4,m3,m4,N4,?_,fun m=> ?_⟩
 ·have b0:Below W.heap.size W (W.alloc (.map #[] 0)):=(Yea _ _).alloc (Ye9 _) _;have z0:(W.alloc (.map #[] 0)).heap.size=W.heap.size+1:=Z2t;obtain⟨_,_,_,z3,_⟩:=id g3;exact(b0.grown g3 Z7 (fun k e=>by exact Z2q)).grown g4 Z7 (fun k e=>by exact Z2q)
 ·unfold Y2C
  split
  ·exact hT
  ·split
   ·exact hX
   ·exact Ygu _
theorem nm_one(W:World)(X:Nat)(hX:X≤18446744073709551615):
 ∃W3,(Instr.mapUpdate 155 (.map (some W.heap.size)) (.string ⟨#[73,84,84]⟩) (.int .u64 (X:Int))).run prog (W.alloc (.map #[] 0))= .ok () W3∧
  Y1n W3 W.heap.size 1 (Y2C (fun _=>0) Ye X)∧Below W.heap.size W W3∧(∀m,Y2C (fun _=>0) Ye X m≤18446744073709551615):=by
 obtain⟨W3,m3,N3,g3⟩:=Y1n.put (Y1n.made W) Z7 Ye Z16 X hX;refine⟨W3,m3,N3,?_,fun m=> ?_⟩
 ·have b0:Below W.heap.size W (W.alloc (.map #[] 0)):=(Yea _ _).alloc (Ye9 _) _;have z0:(W.alloc (.map #[] 0)).heap.size=W.heap.size+1:=Z2t;exact b0.grown g3 Z7 (fun k e=>by exact Z2q)
 ·unfold Y2C
  split
  ·exact hX
  ·exact Ygu _
theorem Z2p{P:Prop}(h:P:=by
 have HF:=hid (hF.below k7)
 have HK:=hid ((HK4.out.trans hK (fun i hi=>by rcases hi with hi | hi;exact .inl hi;exact .inr Z7)).below k7)
 clear hsl hK hF k7 cm
 go_wp2_with fail
 go_ret2
 exact⟨_,_,rfl,HA.out,HF.out,HK.out⟩):P:=h
section
variable {w:World}{B g gp gn:Nat}{ov rv lv ta ga ua oa:Value}{sn ss:List UInt8}{lim:Int}{c:FCf}{s:FSt}
theorem Y7h(p:PK)(x:List UInt8)(r:List (List UInt8))(bf bi:Nat)(hs:s.left=x :: r)(h:YO w B g gp gn ov rv lv ta ga ua oa sn ss lim c s)(hE:Y2L p.op p.now p.flags p.vs p.n p.I p.d=0)
 (hbf:w.cell? ⟨bf,0,none⟩=some (.pointer (some ⟨g,0,none⟩))) (hbi:w.cell? ⟨bi,0,none⟩=some (.int .u64 (p.v Ye:Nat))) (hfg:bf≠g) (hig:bi≠g):
 Calls prog 59 #[.pointer (some ⟨bf,0,none⟩),.pointer (some ⟨bi,0,none⟩)] w fun e w'=>Ybr w B g gp gn ov rv ta ga ua oa sn ss lim c (Y7m s p) e w':=by
 have hL:=h.lft;rw[hs]at hL;obtain⟨b,o,cc,na,nc,hbB,rfl,hx0,⟨cs,hcs⟩,hsl,hL2⟩:=Y9d hL;have hbg:=Ym hcs h.blk Z16;have hitt:=Y4Z hE;have hR:Y7m s p=({s with left:=r,stat:=up1 s.stat},[⟨36,if r= []then 128 else 64,Y5X (p.v Ye) (if r= []then Y26 else 1) s.stat s.cmd,x⟩]):=by unfold Y7m;rw[hs]
 rw[hR];have s13:=(h.blk.cell 13).trans (rfl:_=some (Value.slice (some ⟨b,o,none⟩) (r.length+1) cc));have f13:=h.blk.free 13;generalize p.v Ye=X at *;have hgl:=h.blk.lt;have hgB:=h.gB;have hbl:=hcs.lt;have hbfl:=Yeb hbf;have hbil:=Yeb hbi;have Gd:Blk w.drew g 75 (Y14 (.pointer (some ⟨gn,0,none⟩)) ta ga ua oa sn ss lim c.name c.disc s.stat s.cmd (.pointer (some ⟨gp,0,none⟩)) (.slice (some ⟨b,o,none⟩) (r.length+1) cc) s.closed):=h.blk
 have d13:=Gd.free 13;obtain⟨W2,hW2⟩: ∃W2,w.drew.setCell ⟨g,13,none⟩ (.slice na r.length nc)=W2:=⟨_,rfl⟩;have K2:Y1 (fun k=>k=g) w W2:=by rw[←hW2];exact((Y1.refl _ w).below ((Yea _ _).drew)).set _ _ (.inl rfl)
 have G2:Blk W2 g 75 (Y14 (.pointer (some ⟨gn,0,none⟩)) ta ga ua oa sn ss lim c.name c.disc s.stat s.cmd (.pointer (some ⟨gp,0,none⟩)) (.slice na r.length nc) s.closed):=by rw[←hW2];exact Gd.set 13 _
 have z2:W2.heap.size=w.heap.size:=by rw[←hW2];exact Z3j
 refine Z2J ?_;intro h2 y13;have yf:=K2.cell hbf hfg;have yi:=K2.cell hbi hig;have hmm:=@run_makeMap prog;have hn1:(r.length+1:Nat)=r.length+1:=rfl;have H2:=hid h2;have HK2:=hid K2;by_cases h0:r.length=0
 ·have hr:r= []:=by cases r with | nil=>rfl | cons y r=>simp at h0
  subst hr;simp only[Yfw];obtain⟨W3,W4,m3,m4,N4,b4,hgf⟩:=Ydm W2 X 4294967295 Z7 Z7;rw[show((4294967295:Nat):Int)=4294967295 from rfl]at m4;have F4:=h2.below b4;have cm:=hid (Y3I 36 128 x _ _ F4 N4 Z7 hgf (show Y1e 36=some _ by rfl) (Y9X X 4294967295 s.stat s.cmd));unfold Y5A Y1a at cm;have HK4:=hid (K2.below b4);rw[z2]at m3 m4 N4 cm;simp only[YeV]at *;clear N4 F4 h2 K2 G2 Gd h hE hR hs hL hL2 hcs b4 hgf HK2 H2
  go_enter func59,ntmps59;go_wp2_with fail;go_still_tail 8,(by kernel_rfl);change wpList _ _ _ _ _ w.drew;go_wp2_with fail;refine cm.out.mono ?_;rintro e w6 ⟨v,rfl,hsl,hK,hF⟩;obtain⟨sa,sc,rfl,-⟩: ∃sa sc,v= .slice sa (Y5X X 4294967295 s.stat s.cmd).length sc∧True:=Z14;refine Z3Y ?_;intro k7;have HA:=hid (Y2S (op:=36) (flags:=128) (d:=x) hsl);exact Z2p
 ·have hrn:r≠ []:=fun e=>h0 (by rw[e];rfl)
  rw[Yed hrn,Yed hrn];have hd:0<r.length:=Z7;clear h0;obtain⟨W3,W4,m3,m4,N4,b4,hgf⟩:=Ydm W2 X 1 Z7 Z7;rw[show((1:Nat):Int)=1 from rfl]at m4;have F4:=h2.below b4;have cm:=hid (Y3I 36 64 x _ _ F4 N4 Z7 hgf (show Y1e 36=some _ by rfl) (Y9X X 1 s.stat s.cmd));unfold Y5A Y1a at cm;have HK4:=hid (K2.below b4);rw[z2]at m3 m4 N4 cm;clear N4 F4 h2 K2 G2 Gd h hE hR hs hL hL2 hcs b4 hgf HK2 H2
  go_enter func59,ntmps59;go_wp2_with fail;go_still_tail 8,(by kernel_rfl);change wpList _ _ _ _ _ w.drew;go_wp2_with fail;refine cm.out.mono ?_;rintro e w6 ⟨v,rfl,hsl,hK,hF⟩;obtain⟨sa,sc,rfl,-⟩: ∃sa sc,v= .slice sa (Y5X X 1 s.stat s.cmd).length sc∧True:=Z14;refine Z4a ?_;intro k7;have HA:=hid (Y2S (op:=36) (flags:=64) (d:=x) hsl);exact Z2p
end
end
section
open Go.Proofs.Tryz
open Go Go.RowKit
def gfD(Y X:Nat)(d:Nat→Bool)(m:List UInt8):Nat:=if m=YB∧d 8=true then 4294967295 else if m=Ye∧d 7=true then X else if m=Y2P∧d 5=true then Y else 0
def Ycn(d:Nat→Bool):Nat:=(if d 5=true then 1 else 0) +(if d 7=true then 1 else 0) +(if d 8=true then 1 else 0)
def Y28(g:Nat)(W3:World)(Y X:Nat)(P8:Value→World→Prop)(P9:Nat→World→Prop)(d:Nat→Bool)(y:Nat×Value×Nat)(W:World):Prop:=
 Y1 (fun k=>k=g) W3 W∧(d 10=false→Below W3.heap.size W3 W)∧(d 10=true→d 5=true∧d 7=true∧d 8=true)∧(d 5=true→d 4=true∧d 2=true)∧(d 7=true→d 2=true)∧(d 8=true→d 2=true)∧(d 11=true→d 10=true)∧
  (d 2=true→d 10=false→W3.heap.size≤y.1∧Y1n W y.1 (Ycn d) (gfD Y X d))∧(d 10=true→P8 y.2.1 W)∧(d 11=true→P9 y.2.2 W)
def N9(d:Nat→Bool):Prop:=d 9=true→d 5=true∧d 7=true∧d 8=true
theorem N9.also{d:Nat→Bool}(h:N9 d)(i:Nat)(hi:i≠9):N9 (Go.Proofs.YtfadikchijkcfaaGreatDoor.also d i):=by
 unfold N9;rw[Y4 d hi];intro h9;obtain⟨a,b,c⟩:=h h9;unfold Go.Proofs.YtfadikchijkcfaaGreatDoor.also;refine⟨?_,?_,?_⟩ <;>split<;>simp[a,b,c]
theorem N9.nine{d:Nat→Bool}(h5:d 5=true)(h7:d 7=true)(h8:d 8=true):N9 (Go.Proofs.YtfadikchijkcfaaGreatDoor.also d 9):=by
 unfold N9;rw[Y4 d (show 9≠5 from Z7),Y4 d (show 9≠7 from Z7),Y4 d (show 9≠8 from Z7)]
 exact fun _=>⟨h5,h7,h8⟩
theorem YdD(Y X:Nat)(d:Nat→Bool)(h5:d 5=true)(h7:d 7=true)(h8:d 8=true):gfD Y X d=Y2C (Y2C (Y2C (fun _=>0) Y2P Y) Ye X) YB 4294967295:=by
 funext m
 unfold gfD Y2C;simp only[h5,h7,h8,Ygm]
theorem gfD_5(Y X:Nat)(d:Nat→Bool):gfD Y X (Go.Proofs.YtfadikchijkcfaaGreatDoor.also d 5)=Y2C (gfD Y X d) Y2P Y:=by
 funext m
 unfold gfD Y2C;rw[Y1B,Y4 d (show 5≠7 from Z7),Y4 d (show 5≠8 from Z7)];by_cases h:m=Y2P
 ·subst h;rw[Yed (fun e=>absurd e.1 Z16),Yed (fun e=>absurd e.1 Z16),Yei ⟨rfl,rfl⟩,Yei rfl]
 ·rw[Yed h];simp only[h,false_and,if_false]
theorem gfD_7(Y X:Nat)(d:Nat→Bool):gfD Y X (Go.Proofs.YtfadikchijkcfaaGreatDoor.also d 7)=Y2C (gfD Y X d) Ye X:=by
 funext m
 unfold gfD Y2C;rw[Y1B,Y4 d (show 7≠5 from Z7),Y4 d (show 7≠8 from Z7)];by_cases h:m=Ye
 ·subst h;rw[Yed (fun e=>absurd e.1 Z16),Yei ⟨rfl,rfl⟩,Yei rfl]
 ·rw[Yed h];simp only[h,false_and,if_false]
theorem gfD_8(Y X:Nat)(d:Nat→Bool):gfD Y X (Go.Proofs.YtfadikchijkcfaaGreatDoor.also d 8)=Y2C (gfD Y X d) YB 4294967295:=by
 funext m
 unfold gfD Y2C;rw[Y1B,Y4 d (show 8≠5 from Z7),Y4 d (show 8≠7 from Z7)];by_cases h:m=YB
 ·subst h;rw[Yei ⟨rfl,rfl⟩,Yei rfl]
 ·rw[Yed h];simp only[h,false_and,if_false]
theorem gfD_le(Y X:Nat)(d:Nat→Bool)(hY:Y≤18446744073709551615)(hX:X≤18446744073709551615)(m:List UInt8):gfD Y X d m≤18446744073709551615:=by
 unfold gfD
 split
 ·exact Z7
 ·split
  ·exact hX
  ·split
   ·exact hY
   ·exact Ygu _
section
variable {g:Nat}{W3 W W':World}{Y X:Nat}{P8:Value→World→Prop}{P9:Nat→World→Prop}{d:Nat→Bool}{y:Nat×Value×Nat}
theorem Y28.no2(h:Y28 g W3 Y X P8 P9 d y W)(h2:d 2=false):d 5=false∧d 7=false∧d 8=false∧d 10=false∧d 11=false:=by
 obtain⟨a,b,c,e5,e7,e8,e11,_⟩:=h;have h5:d 5=false:=by cases hq:d 5 with | false=>rfl | true=>rw[(e5 hq).2]at h2;cases h2
 have h7:d 7=false:=by cases hq:d 7 with | false=>rfl | true=>rw[e7 hq]at h2;cases h2
 have h8:d 8=false:=by cases hq:d 8 with | false=>rfl | true=>rw[e8 hq]at h2;cases h2
 have h10:d 10=false:=by cases hq:d 10 with | false=>rfl | true=>rw[(c hq).1]at h5;cases h5
 have h11:d 11=false:=by cases hq:d 11 with | false=>rfl | true=>rw[e11 hq]at h10;cases h10
 exact⟨h5,h7,h8,h10,h11⟩
theorem Y28.no10(h:Y28 g W3 Y X P8 P9 d y W)(hq:d 4=false∨d 5=false∨d 7=false∨d 8=false):d 10=false∧d 11=false:=by
 obtain⟨a,b,c,e5,e7,e8,e11,_⟩:=h
 have h10:d 10=false:=by
  cases h:d 10 with
  | false=>rfl
  | true =>
   obtain⟨c5,c7,c8⟩:=c h;rw[(e5 c5).1,c5,c7,c8]at hq;simp at hq
 exact⟨h10,by cases h:d 11 with | false=>rfl | true=>rw[e11 h]at h10;cases h10⟩
theorem Y28.same(h:Y28 g W3 Y X P8 P9 d y W)(i:Nat)(h2:i≠2)(h4:i≠4)(h5:i≠5)(h7:i≠7)(h8:i≠8)(h10:i≠10)(h11:i≠11):Y28 g W3 Y X P8 P9 (Go.Proofs.YtfadikchijkcfaaGreatDoor.also d i) y W:=by
 unfold Y28 Ycn gfD at *;rw[Y4 d h2,Y4 d h4,Y4 d h5,Y4 d h7,Y4 d h8,Y4 d h10,Y4 d h11];exact h
theorem Y28.call(h:Y28 g W3 Y X P8 P9 d y W)(h4:d 4=false)(hb:Below W.heap.size W W'):Y28 g W3 Y X P8 P9 (Go.Proofs.YtfadikchijkcfaaGreatDoor.also d 4) y W':=by
 obtain⟨h10,h11⟩:=h.no10 (.inl h4);unfold Y28 Ycn gfD at *;rw[Y4 d (show 4≠2 from Z7),Y1B,Y4 d (show 4≠5 from Z7),Y4 d (show 4≠7 from Z7),Y4 d (show 4≠8 from Z7),Y4 d (show 4≠10 from Z7),Y4 d (show 4≠11 from Z7)];obtain⟨a,b,c,e5,e7,e8,e11,f,k,l⟩:=h;exact⟨a.below hb,fun _=>(b h10).trans (hb.mono (b h10).size),c,fun h=>⟨rfl,(e5 h).2⟩,e7,e8,e11,fun p q=>⟨(f p q).1,(f p q).2.below hb⟩,fun h=>(by rw[h10]at h;cases h),fun h=>(by rw[h11]at h;cases h)⟩
theorem Y28.map(h:Y28 g W3 Y X P8 P9 d y W)(h2:d 2=false):Y28 g W3 Y X P8 P9 (Go.Proofs.YtfadikchijkcfaaGreatDoor.also d 2) (W.heap.size,y.2) (W.alloc (.map #[] 0)):=by
 obtain⟨h5,h7,h8,h10,h11⟩:=h.no2 h2;have hb:Below W.heap.size W (W.alloc (.map #[] 0)):=(Yea _ _).alloc (Ye9 _) _;have hN:=Y1n.made W
 have hg:gfD Y X (Go.Proofs.YtfadikchijkcfaaGreatDoor.also d 2)=fun _=>0:=by
  funext m
  unfold gfD;rw[Y4 d (show 2≠5 from Z7),Y4 d (show 2≠7 from Z7),Y4 d (show 2≠8 from Z7),h5,h7,h8];exact Z2t
 have hc:Ycn (Go.Proofs.YtfadikchijkcfaaGreatDoor.also d 2)=0:=by
  unfold Ycn;rw[Y4 d (show 2≠5 from Z7),Y4 d (show 2≠7 from Z7),Y4 d (show 2≠8 from Z7),h5,h7,h8];rfl
 unfold Y28 at *;rw[hg,hc];rw[Y1B,Y4 d (show 2≠4 from Z7),Y4 d (show 2≠5 from Z7),Y4 d (show 2≠7 from Z7),Y4 d (show 2≠8 from Z7),Y4 d (show 2≠10 from Z7),Y4 d (show 2≠11 from Z7)];obtain⟨a,b,c,e5,e7,e8,e11,f,k,l⟩:=h;exact⟨a.below hb,fun _=>(b h10).trans (hb.mono (b h10).size),c,fun h=>(by rw[h5]at h;cases h),fun _=>rfl,fun _=>rfl,e11,fun p q=>⟨(b h10).size,hN⟩,fun h=>(by rw[h10]at h;cases h),fun h=>(by rw[h11]at h;cases h)⟩
theorem Y28.put(h:Y28 g W3 Y X P8 P9 d y W)(i:Nat)(hi:i=5∨i=7∨i=8)(hd:d i=false)(h2:d 2=true)(h4:i=5→d 4=true){s:List UInt8}{x:Nat}(hg:gfD Y X (Go.Proofs.YtfadikchijkcfaaGreatDoor.also d i)=Y2C (gfD Y X d) s x)(hs:s.length≤9223372036854775807)(hx:x≤18446744073709551615):
 ∃w',(Instr.mapUpdate 155 (.map (some y.1)) (.string (bs s)) (.int .u64 (x:Int))).run prog W= .ok () w'∧Y28 g W3 Y X P8 P9 (Go.Proofs.YtfadikchijkcfaaGreatDoor.also d i) y w':=by
 obtain⟨h10,h11⟩:=h.no10 (by rcases hi with rfl | rfl | rfl;exact .inr (.inl hd);exact .inr (.inr (.inl hd));exact .inr (.inr (.inr hd)));obtain⟨a,b,c,e5,e7,e8,e11,f,k,l⟩:=h;obtain⟨hy,hN⟩:=f h2 h10;have hcn:Ycn d≤3:=by unfold Ycn;split<;>split<;>split<;>omega
 obtain⟨w',m,N',g'⟩:=Y1n.put hN Z7 s hs x hx
 have hc:Ycn (Go.Proofs.YtfadikchijkcfaaGreatDoor.also d i)=Ycn d+1:=by
  unfold Ycn;rcases hi with rfl | rfl | rfl
  ·rw[Y1B,Y4 d (show 5≠7 from Z7),Y4 d (show 5≠8 from Z7),hd];exact Zd
  ·rw[Y1B,Y4 d (show 7≠5 from Z7),Y4 d (show 7≠8 from Z7),hd];exact Zd
  ·rw[Y1B,Y4 d (show 8≠5 from Z7),Y4 d (show 8≠7 from Z7),hd];exact Z2t
 refine⟨w',m,?_⟩;unfold Y28;rw[hc,hg];have h2':i≠2:=Z7;rw[Y4 d h2',Y4 d (show i≠4 from Z7),Y4 d (show i≠10 from Z7),Y4 d (show i≠11 from Z7),h10,h11];refine⟨a.only g' (fun q hq=> .inr Z51),fun _=>(b h10).grown g' (b h10).size (fun q hq=>by exact Z51),by simp,?_,fun _=>h2,fun _=>h2,by simp,fun _ _=>⟨hy,N'⟩,by simp,by simp⟩;intro h;by_cases hi5:i=5
 ·exact⟨h4 hi5,h2⟩
 ·rw[Y4 d hi5]at h;exact e5 h
theorem Y28.made{va:Value}(h:Y28 g W3 Y X P8 P9 d y W)(h10:d 10=false)(h5:d 5=true)(h7:d 7=true)(h8:d 8=true)(hK:Y1 (fun k=>k=g) W3 W')(hP:P8 va W'):Y28 g W3 Y X P8 P9 (Go.Proofs.YtfadikchijkcfaaGreatDoor.also d 10) (y.1,va,y.2.2) W':=by
 obtain⟨a,b,c,e5,e7,e8,e11,f,k,l⟩:=h;have h11:d 11=false:=by cases h:d 11 with | false=>rfl | true=>rw[e11 h]at h10;cases h10
 unfold Y28 Ycn gfD;rw[Y1B,Y4 d (show 10≠2 from Z7),Y4 d (show 10≠4 from Z7),Y4 d (show 10≠5 from Z7),Y4 d (show 10≠7 from Z7),Y4 d (show 10≠8 from Z7),Y4 d (show 10≠11 from Z7),h11];exact⟨hK,by simp,fun _=>⟨h5,h7,h8⟩,e5,e7,e8,by simp,by simp,fun _=>hP,by simp⟩
theorem Y28.row(h:Y28 g W3 Y X P8 P9 d y W)(h10:d 10=true)(o:Obj)(h8: ∀va W W',P8 va W→Below W.heap.size W W'→P8 va W')(hP:P9 W.heap.size (W.alloc o)):Y28 g W3 Y X P8 P9 (Go.Proofs.YtfadikchijkcfaaGreatDoor.also d 11) (y.1,y.2.1,W.heap.size) (W.alloc o):=by
 obtain⟨a,b,c,e5,e7,e8,e11,f,k,l⟩:=h;have hb:=(Yea W.heap.size W).alloc (Ye9 _) o;unfold Y28 Ycn gfD;rw[Y1B,Y4 d (show 11≠2 from Z7),Y4 d (show 11≠4 from Z7),Y4 d (show 11≠5 from Z7),Y4 d (show 11≠7 from Z7),Y4 d (show 11≠8 from Z7),Y4 d (show 11≠10 from Z7),h10];exact⟨a.below hb,by simp,fun _=>c h10,e5,e7,e8,fun _=>rfl,by simp,fun _=>h8 _ _ _ (k h10) hb,fun _=>hP⟩
end
end
end Go.Proofs.YtfadikchijkcfaaGreatDoor
