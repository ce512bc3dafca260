/- What is told is small enough where the law goes on. -/
import Derived.Test.YtfadikchijkcfaaGreatDoorParsePure
import Derived.Test.YtfadikchijkcfaaGreatDoorFullNopR
import Derived.Test.YtfadikchijkcfaaGreatDoorTCrowd
import Derived.Test.YtfadikchijkcfaaGreatDoorFullTakeR2
import Derived.Test.YtfadikchijkcfaaGreatDoorLarge
import Derived.Test.YtfadikchijkcfaaGreatDoorBothN
import Derived.Test.YtfadikchijkcfaaGreatDoorFullRefR
import Derived.Test.YtfadikchijkcfaaGreatDoorFullTake
import Derived.Test.YtfadikchijkcfaaGreatDoorFullSt
import Derived.Test.YtfadikchijkcfaaGreatDoorThick
import Derived.Test.YtfadikchijkcfaaGreatDoorAhs
import Derived.Test.YtfadikchijkcfaaGreatDoorFullTakeJ
import Derived.Deep.RegionHeld3
import Derived.Deep.LoopGhost
import Derived.Test.YtfadikchijkcfaaGreatDoorCardBase
import Derived.Test.YtfadikchijkcfaaGreatDoorAhsIn
set_option linter.unusedVariables false
set_option linter.unusedSectionVars false
set_option linter.unusedSimpArgs false
set_option maxRecDepth 100000
set_option maxHeartbeats 64000000
namespace Go.Proofs.YtfadikchijkcfaaGreatDoor
section
open Go.Proofs.Tryz
open Go Go.RowKit
theorem Y61{α:Type}(f:α→Nat){l:List α}{x:α}(h:x∈l):f x≤Y1U f l:=by
 obtain⟨k,hk,rfl⟩:=YfF.1 h;have:=Y6i f l k (l[k]) hk
 rwa [List.getD,Yec hk]at this
theorem fbnd_of{w:World}{c:FCf}{us:PL}{sn ss:List UInt8}{lim:Int}{tv gv uv ov:Value}(C:YD w c.ts c.gs us sn ss lim c.own tv gv uv ov)(h:Y9s c.ts c.gs us sn ss c.own=false):FBnd c:=by
 unfold Y9s confT at h;simp only[Bool.or_eq_false_iff,decide_eq_false_iff_not]at h;obtain⟨h1,h2⟩:=h;have a1:=Y2O szT c.ts (fun x=>by unfold szT;exact Z7);have a2:=Y2O szG c.gs (fun x=>by unfold szG;exact Z7);have a3:=Y2O szP c.own (fun x=>by unfold szP;exact Z7);refine⟨by omega,fun y hy=> ?_,by omega,by omega,fun t ht=> ?_,fun g hg=> ?_⟩
 ·have:1+y.1.length+y.2.length≤Y1U szP c.own:=Y61 szP hy;exact Z7
 ·have:1+t.length≤Y1U szT c.ts:=Y61 szT ht;exact Z7
 ·have:1+g.1.length≤Y1U szG c.gs:=Y61 szG hg;refine⟨by omega,?_⟩;obtain⟨k,hk,rfl⟩:=YfF.1 hg;have:=C.capT k
  rwa [List.getD,Yec hk]at this
theorem YbS(l:PL)(h:(Y1j l).1=0):(Y1j l).2= -1:=by
 unfold Y1j at h ⊢
 split at h
 ·rename_i h1
  exact absurd h h1
 ·rename_i h1
  rw[Yed h1]
  split at h
  ·rename_i k hk
   have:=List.find?_some hk;simp only[ne_eq,YfS]at this;exact absurd h this
  ·rfl
theorem Ya5(ts:List (List UInt8))(gs:GL)(us:PL)(sn ss:List UInt8)(lim:Int)(own:PL)(h:(Yt ts gs us sn ss lim own).1=0):(Yt ts gs us sn ss lim own).2= -1:=by
 unfold Yt at h ⊢
 split at h
 ·cases h
 ·rename_i h1
  rw[Yed h1]
  split at h
  ·rename_i h2
   exact absurd h h2
  ·rename_i h2
   rw[Yed h2]
   split at h
   ·rename_i h3
    exact absurd h h3
   ·rename_i h3
    rw[Yed h3]
    split at h
    ·rename_i h4
     exact absurd h h4
    ·rename_i h4
     rw[Yed h4]
     split at h
     ·cases h
     ·rename_i h5
      rw[Yed h5]
      split at h
      ·cases h
      ·rename_i h6
       rw[Yed h6];exact YbS own h
theorem Y9I.kept{T TG:TypeId}{p ta ga ua oa:Value}{sn ss:List UInt8}{lim:Int}{name:List UInt8}{disc:Bool}{stat cmd:Int}{B g:Nat}{w w':World}{S:Nat→Prop}(h:Y9I T TG p ta ga ua oa sn ss lim name disc stat cmd B g w)(K:Y1 S w w')(hS: ∀k,S k→k<B):
 Y9I T TG p ta ga ua oa sn ss lim name disc stat cmd B g w':=by
 obtain⟨gg,h1,h2,h3,h4,h5⟩:=h;exact⟨gg,h1,h2,h3,K.blk h4 (fun e=>by have:=hS _ e;exact Z7),K.blk h5 (fun e=>by have:=hS _ e;exact Z7)⟩
theorem Y9I.below{T TG:TypeId}{p ta ga ua oa:Value}{sn ss:List UInt8}{lim:Int}{name:List UInt8}{disc:Bool}{stat cmd:Int}{B g:Nat}{w w':World}(h:Y9I T TG p ta ga ua oa sn ss lim name disc stat cmd B g w)(hb:Below w.heap.size w w'):
 Y9I T TG p ta ga ua oa sn ss lim name disc stat cmd B g w':=by
 obtain⟨gg,h1,h2,h3,h4,h5⟩:=h;exact⟨gg,h1,h2,h3,h4.below hb,h5.below hb⟩
theorem Yaw(g:Nat)(b:Bool)(w:World)(h:w.cell? ⟨g,14,none⟩=some (.bool b)):
 Calls prog 22 #[.pointer (some ⟨g,0,none⟩)] w fun e w'=>e= .returned (.bool b)∧Below w.heap.size w w':=by
 go_enter func22,ntmps22;go_wp2;go_ret;exact Z2D
theorem Y8E.below{w w':World}{b o:Nat}{x:PD}(h:Y8E w b o x)(hb:Below w.heap.size w w'):Y8E w' b o x:=by
 obtain⟨c0,c1,c2,c3,c4,c5⟩:=h;exact⟨(hb.cell (Yeb c0)).trans c0,(hb.cell (Yeb c1)).trans c1,(hb.cell (Yeb c2)).trans c2,(hb.cell (Yeb c3)).trans c3,(hb.cell (Yeb c4)).trans c4,(hb.cell (Yeb c5)).trans c5⟩
theorem PdSl.below{w w':World}{v:Value}{l:List PD}(h:PdSl w v l)(hb:Below w.heap.size w w'):PdSl w' v l:=by
 obtain⟨A,c,rfl,hn,hc⟩:=h;refine⟨A,c,rfl,hn,hc.imp id ?_⟩;rintro⟨b,o,rfl,h⟩;exact⟨b,o,rfl,fun k x hx=>⟨(h k x hx).1.below hb,PdIn.below (h k x hx).2 hb⟩⟩
theorem Y7I.box{w wr w1:World}{gx gr fb:Nat}{ov mv rvx rvr:Value}{own rx rr:PL}{k1 k2:IntKind}{x1 x2:Int}(h:Y7I w wr gx gr ov mv rvx rvr own rx rr)(F:Blk wr fb 38 #[.int k1 x1,.int k2 x2])(hf:w.heap.size≤fb)
 (K:Y1 (fun k=>k=fb) wr w1):Y7I w w1 gx gr ov mv rvx rvr own rx rr:=by
 have h1: ¬gx=fb:=Ym h.X.blk F Z16;have h2: ¬gr=fb:=Ym h.R.blk F Z16;have h3: ∀q,rvx.ownBlock=some q→ ¬q=fb:=fun q hq e=>Y6y h.X.hrv F Z16 (e ▸hq)
 have h4: ∀q,rvr.ownBlock=some q→ ¬q=fb:=fun q hq e=>Y6y h.R.hrv F Z16 (e ▸hq)
 exact⟨⟨K.blk h.X.blk h1,h.X.hov.kept (Y6u h.X.hov F) K,Y2F K h.X.hrv h3,h.X.sg,h.X.so⟩,⟨K.blk h.R.blk h2,h.R.hov.kept (Y6u h.R.hov F) K,Y2F K h.R.hrv h4,h.R.sg,h.R.so⟩,
  h.hgx,h.hgr,h.ne,h.xr,h.rx',h.ap,h.fo,h.fm,h.b.trans (K.toBelow (fun k hk=>by have hk:k=fb:=hk;omega) h.b.size)⟩
end
section
open Go.Proofs.Tryz
open Go Go.RowKit
theorem Z3F{P:Prop}(h:P:=by
 rintro e w'' ⟨he,hq⟩
 exact⟨he,key2 _ _ hS hq⟩):P:=h
section
variable (ta ga ua oa ofa la:Option Addr)(tc gc uc oc ofc lc:Nat)(us offers:PL)(sn ss:List UInt8)(lim stat cmd:Int)(c:FCf)(L:List PD)(w:World)
 (C:YD w c.ts c.gs us sn ss lim c.own (.slice ta c.ts.length tc) (.slice ga c.gs.length gc) (.slice ua us.length uc) (.slice oa c.own.length oc))
 (hof:PSl w (.slice ofa offers.length ofc) offers) (hofb:Y1U szP offers≤1048576) (hofc:offers.length≤ofc) (hL:PdSl w (.slice la L.length lc) L) (hLb:Y1U szD L≤1048576) (hnm:c.name.length≤9223372036854775807)
 (hs0:0≤stat) (hs1:stat≤4294967295) (hc0:0≤cmd) (hc1:cmd≤4294967295) (hg:Y2e w) (hT:AS w) (hev:EV w) (hP:PT w) (hM:ML w)
include C hof hofb hofc hL hLb hnm hs0 hs1 hc0 hc1 hg hT hev hP hM
theorem Y8h:Calls prog 3 #[Y2I (.slice ta c.ts.length tc) (.slice ga c.gs.length gc) (.slice ua us.length uc) (.slice oa c.own.length oc) sn ss lim,.slice ofa offers.length ofc,.string (bs c.name),.bool c.disc,.int .u32 stat,.int .u32 cmd,.slice la L.length lc] w fun e w'=>e= .returned (.bool true)∧Below w.heap.size w w':=by
 obtain⟨cb,hcb⟩: ∃cb,Y9s c.ts c.gs us sn ss c.own=cb:=⟨_,rfl⟩;obtain⟨tb,htb⟩: ∃tb,decide (4000<Y1U szP offers)=tb:=⟨_,rfl⟩
 have cC: ∀W,Below w.heap.size w W→Hid (Calls prog 5 #[.agg #[.slice ta c.ts.length tc,.slice ga c.gs.length gc,.slice ua us.length uc,.string (bs sn),.string (bs ss),.int .i64 lim,.slice oa c.own.length oc]] W fun e w'=>e= .returned (.bool cb)∧Below W.heap.size W w'):=fun W hq=>hid (by
  have h:=YaC ta ga ua oa tc gc uc oc c.ts c.gs us sn ss lim c.own W (C.below (hq.mono (Ye9 _)));rw[hcb]at h
  exact h)
 have cTh: ∀W,Below w.heap.size w W→Hid (Calls prog 6 #[.slice ofa offers.length ofc] W fun e w'=>e= .returned (.bool tb)∧Below W.heap.size W w'):=fun W hq=>hid (by
  have h:=Y7c (.slice ofa offers.length ofc) offers W (hof.below hq) hofb;rw[htb]at h
  exact h)
 have cSm:=fun W (hq:Below w.heap.size w W)=>hid (some_any (.slice la L.length lc) L W (hL.below hq) hLb)
 unfold Ybp at cSm;have b1:Below w.heap.size w (w.alloc (.cells #[.slice ta c.ts.length tc,.slice ga c.gs.length gc,.slice ua us.length uc,.string (bs sn),.string (bs ss),.int .i64 lim,.slice oa c.own.length oc] 29)):=(Yea _ _).alloc (Ye9 _) _;have C1:Blk (w.alloc (.cells #[.slice ta c.ts.length tc,.slice ga c.gs.length gc,.slice ua us.length uc,.string (bs sn),.string (bs ss),.int .i64 lim,.slice oa c.own.length oc] 29)) w.heap.size 29 #[.slice ta c.ts.length tc,.slice ga c.gs.length gc,.slice ua us.length uc,.string (bs sn),.string (bs ss),.int .i64 lim,.slice oa c.own.length oc]:=Blk.new _ _ _
 have HCB:=hid hcb;have HTB:=hid htb;obtain⟨dc,hdc⟩: ∃dc,c.disc=dc:=⟨_,rfl⟩;have HDC:=hid hdc;have CC:=hid C;have HOF:=hid hof;have HL:=hid hL;have Hg:=hid hg;have HTT:=hid hT;have Hev:=hid hev;have HPP:=hid hP;have HMM:=hid hM;unfold Y2I;clear hcb htb C hof hL hg hT hev hP hM;rw[hdc];clear hdc;go_enter func3,ntmps3;go_wp2_with fail;refine(cC _ b1).out.mono ?_;generalize w.alloc (.cells #[.slice ta c.ts.length tc,.slice ga c.gs.length gc,.slice ua us.length uc,.string (bs sn),.string (bs ss),.int .i64 lim,.slice oa c.own.length oc] 29)=W1 at *
 rintro e w2 ⟨rfl,hb2⟩;have b2:=b1.trans (hb2.mono b1.size);have C2:=C1.below hb2
 cases cb with
 | true =>
  go_wp2;go_ret;exact⟨rfl,b2⟩
 | false =>
 go_wp2_with fail;refine(cTh _ b2).out.mono ?_;rintro e w3 ⟨rfl,hb3⟩;have b3:=b2.trans (hb3.mono b2.size);have C3:=C2.below hb3
 cases tb with
 | true =>
  go_wp2;go_ret;exact⟨rfl,b3⟩
 | false =>
 by_cases h200:200<c.name.length
 ·have d200:decide ((200:Int) < (c.name.length:Int))=true:=Yel Z7;clear h200;go_wp2;go_ret;exact⟨rfl,b3⟩
 have d200:decide ((200:Int) < (c.name.length:Int))=false:=Yeh Z7;clear h200;go_wp2_with fail;refine(cSm _ b3).out.mono ?_;rintro e w4 ⟨⟨sb,rfl,hsb⟩,hb4⟩;have b4:=b3.trans (hb4.mono b3.size);have C4:=C3.below hb4
 cases sb with
 | false =>
  go_wp2;go_ret;exact⟨rfl,b4⟩
 | true =>
 have hL100:=hsb rfl;have HFB:=hid (fbnd_of CC.out HCB.out)
 have hofs:Y3V offers 4000:=fun y hy=>by
  have h1:1+y.1.length+y.2.length≤Y1U szP offers:=Y61 szP hy;have h2:=YfQ HTB.out;exact Z7
 have hofl:offers.length≤4000:=by
  have h1:=Y2O szP offers (fun x=>by unfold szP;exact Z7);have h2:=YfQ HTB.out;exact Z7
 have hofbd:=hid (hofs.pbd Z7 Z7);have HOS:=hid hofs;have hownbd:=hid (HFB.out.os.pbd Z7 (by have:=HFB.out.ol;exact Z7));clear C1 C2 C3 cC cTh cSm hsb hb2 hb3 hb4 b1 b2 b3 hofs d200;have t0:=(C4.cell 0).trans (rfl:_=some (Value.slice ta c.ts.length tc));have t1:=(C4.cell 1).trans (rfl:_=some (Value.slice ga c.gs.length gc));have t2:=(C4.cell 2).trans (rfl:_=some (Value.slice ua us.length uc));have t3:=(C4.cell 3).trans (rfl:_=some (Value.string (bs sn)))
 have t4:=(C4.cell 4).trans (rfl:_=some (Value.string (bs ss)));have t5:=(C4.cell 5).trans (rfl:_=some (Value.int .i64 lim));have t6:=(C4.cell 6).trans (rfl:_=some (Value.slice oa c.own.length oc));have cR:=hid (rnew_all (.slice oa c.own.length oc) c.own w4 (CC.out.ho.below b4) hownbd.out (Hg.out.below b4) (HPP.out.below b4 (Ye9 _)));have cX:=fun W (hq:Below w.heap.size w W)=>hid (new_all (.slice oa c.own.length oc) c.own W (CC.out.ho.below hq) hownbd.out (Hg.out.below hq) CC.out.capO (HTT.out.below hq (Ye9 _)) (Hev.out.below hq))
 unfold Y5g at cR;unfold Y6c at cX;have cp:=fun v w1 k pl (hq:Below w.heap.size w w1) hv=>hid (Yd8 v k pl w1 (Hg.out.below hq) hv)
 have cis:=fun k pl W=>hid (Y1u k pl W)
 unfold YS at cis cR
 have HGN:=hid (fun(h0:(Y1j c.own).1=0)=>show(Yc c.own).1=0 from by
  by_cases hp:(Yc c.own).1=0
  ·exact hp
  ·rw[Y4F c.own hp]at h0;exact absurd h0 hp)
 generalize hN:Y1j c.own=N at *;obtain⟨nk,npl⟩:=N;simp only at *;clear hN;have HC4:=hid C4;clear C4;go_wp2_with fail;refine cR.out.mono ?_;rintro e w5 ⟨⟨pr,rfl,hr1,hr0⟩,hb5⟩;have b5:=b4.trans (hb5.mono b4.size);have C5:=HC4.out.below hb5;obtain⟨W6,hW6⟩: ∃W6,w5.alloc (.cells #[.int .i64 (nk:Nat),.int .i64 npl] 38)=W6:=⟨_,rfl⟩;have hA6:Below w5.heap.size w5 W6:=Z2O;have F6:Blk W6 w5.heap.size 38 #[.int .i64 (nk:Nat),.int .i64 npl]:=by rw[←hW6];exact Blk.new _ _ _
 have b6:=b5.trans (hA6.mono b5.size);have C6:=C5.below hA6;have t6:=(C6.cell 6).trans (rfl:_=some (Value.slice oa c.own.length oc));have c0:=(F6.cell 0).trans (rfl:_=some (Value.int .i64 (nk:Nat)));have c1:=(F6.cell 1).trans (rfl:_=some (Value.int .i64 npl));have HC6:=hid C6;have HF6:=hid F6;clear C5 C6 F6;go_wp2_with fail;refine(cX _ b6).out.mono ?_;rintro e w7 ⟨⟨px,er,rfl,her,hx1,hx0⟩,hb7⟩;have b7:=b6.trans (hb7.mono b6.size)
 have F7:=HF6.out.below hb7;have C7:=HC6.out.below hb7;have f0:=(F7.cell 0).trans (rfl:_=some (Value.int .i64 (nk:Nat)));have f1:=(F7.cell 1).trans (rfl:_=some (Value.int .i64 npl));have HF7:=hid F7;have HC7:=hid C7;clear F7 C7 c0 c1 t0 t1 t2 t3 t4 t5 t6 cX cR;go_wp2_with fail;go_at_call 10;refine(cis nk npl _).out.mono ?_;rintro e w8 ⟨rfl,hb8⟩;have b8:=b7.trans (hb8.mono b7.size);have F8:=HF7.out.below hb8
 have C8:=HC7.out.below hb8;have f0:=(F8.cell 0).trans (rfl:_=some (Value.int .i64 (nk:Nat)));have f1:=(F8.cell 1).trans (rfl:_=some (Value.int .i64 npl));by_cases hnk:nk=0
 ·rw[Yel hnk];subst hnk;obtain⟨gr,rfl,hRat⟩:=hr0 rfl;obtain⟨gx,rfl,hXat⟩:=hx0 rfl;obtain rfl:=Y2A her rfl;clear hr0 hr1 hx0 hx1 her HGN;have hbx5:=(HC4.out.below hb5).lt;have hz6:=hA6.size;have hz7:=hb7.size;have hz8:=hb8.size;have hw4:=b4.size;have hw5:=b5.size;have hw6:w5.heap.size<W6.heap.size:=HF6.out.lt;obtain⟨hgr0,hRb⟩:=hRat;obtain⟨ov,hgx0,hXb,hXo⟩:=hXat;have hRb':Blk w5 gr 84 #[.slice oa c.own.length oc,.slice none 0 0]:=hRb
  have hXb':Blk w7 gx 127 #[ov,.slice none 0 0]:=hXb;have hrl:=hRb'.lt;have hRb8:=((hRb'.below hA6).below hb7).below hb8;have hXb8:=hXb'.below hb8;have hXo8:=Y2 hXo hb8;have hfov: ∀q,ov.ownBlock=some q→q≠gx∧W6.heap.size≤q:=fun q hq=>⟨fun e=>Y6y hXo hXb' Z16 (e ▸hq),(hXo.lt q hq).1⟩
  have hfo: ∀ (S:Nat→Prop),(∀q,ov.ownBlock=some q→ ¬S q)→Y3h ov c.own S:=fun S hS=>by
   rcases hXo.2 with ⟨_,h0⟩ | ⟨q',cap,cur,rfl,hbq,hgq,_⟩
   ·exact Z44
   ·exact .inr ⟨q',0,_,_,rfl,hS q' rfl⟩
  have Bo8:Y7I w w8 gx gr ov (.slice oa c.own.length oc) (.slice none 0 0) (.slice none 0 0) c.own [] []:=
   ⟨⟨hXb8,Yx hXo8,YeD _ _ _ _,by simp[Value.ownBlock],hfo _ (fun q hq hs=>by
      rcases hs with hs | hs
      ·exact(hfov q hq).1 hs
      ·simp[Value.ownBlock]at hs)⟩,
    ⟨hRb8,CC.out.ho.below b8,YeD _ _ _ _,by simp[Value.ownBlock],Y3h.new CC.out.ho (fun k hk=>by
      rcases hk with rfl | hk
      ·omega
      ·simp[Value.ownBlock]at hk)⟩,
    by omega,by omega,by omega,by simp[Value.ownBlock],by simp[Value.ownBlock],fun q hq=>by simp[Value.ownBlock]at hq,hfo _ (fun q hq hs=>by
     rcases hs with rfl | hs
     ·have:=(hfov _ hq).2;omega
     ·simp[Value.ownBlock]at hs),Y3h.new CC.out.ho (fun k hk=>hk),b8⟩
  have hn60:(Yc offers).1=0→offers.length≤60∧ ∀k,(offers.getD k ([],[])).2.length≤100000:=fun h0=>⟨(Y1G h0).1,fun k=>by have:=(Y1G h0).2 k;omega⟩
  have hown2: ∀k,(c.own.getD k ([],[])).2.length≤100000:=fun k=>by have:=HFB.out.os.at k;exact Z7
  have hownl:c.own.length≤1000000:=by have:=HFB.out.ol;exact Z7
  have cRA:=hid (Y6s c.own offers [] true dc w.heap.size gr (.slice oa c.own.length oc) (.slice none 0 0) (.slice ofa offers.length ofc) w8 Bo8.R b8.size (HOF.out.below b8) (Y3h.new HOF.out Bo8.sr) hofbd.out hn60 (by simp) (by intro k;simp) hownl hown2
   (fun w' K=>⟨HPP.out.below (b8.trans (K.toBelow Bo8.sr b8.size)) (Ye9 _),HMM.out.below (b8.trans (K.toBelow Bo8.sr b8.size))⟩))
  unfold Y8D YS at cRA;rw[outR_eq]at cRA
  have cXAll:=fun W (rvr2:Value) (rr:PL) (Bo:Y7I w W gx gr ov (.slice oa c.own.length oc) (.slice none 0 0) rvr2 c.own [] rr)=>hid (Y6B c.own offers [] true dc w.heap.size gx ov (.slice none 0 0) (.slice ofa offers.length ofc) W Bo.X Bo.b.size (HOF.out.below Bo.b) (Y3h.new HOF.out Bo.sx) hofbd.out hn60 (fun a c e=>by cases e;exact hofc) (by simp) hownl hown2 (HTT.out.below Bo.b (Ye9 _)) (Hev.out.below Bo.b) (HPP.out.below Bo.b (Ye9 _)) (fun w' K=>by
   have q:=Bo.b.trans (K.toBelow Bo.sx Bo.b.size)
   exact⟨HTT.out.below q (Ye9 _),Hev.out.below q,HPP.out.below q (Ye9 _)⟩))
  unfold Y8F at cXAll;have hob:=Y6z c.own offers [] true dc (fun y hy=>by cases hy);generalize Y84 offers [] true=opv at *;obtain⟨ek,epl⟩:=opv;generalize Y2T c.own offers [] true dc=outv at *;obtain⟨out,rec⟩:=outv;simp only at cRA cXAll hob;have HOB:=hid hob
  have hnR: ¬SN gr (.slice none 0 0) w.heap.size:=fun e=>by
   rcases e with e | e
   ·exact Ym C8 Bo8.R.blk Z16 e
   ·simp[Value.ownBlock]at e
  have hnF: ¬SN gr (.slice none 0 0) w5.heap.size:=fun e=>by
   rcases e with e | e
   ·exact Ym F8 Bo8.R.blk Z16 e
   ·simp[Value.ownBlock]at e
  have hnX: ¬SN gx (.slice none 0 0) w.heap.size:=fun e=>by
   rcases e with e | e
   ·exact Ym C8 Bo8.X.blk Z16 e
   ·simp[Value.ownBlock]at e
  have hnG: ¬SN gx (.slice none 0 0) w5.heap.size:=fun e=>by
   rcases e with e | e
   ·exact Ym F8 Bo8.X.blk Z16 e
   ·simp[Value.ownBlock]at e
  have HC8:=hid C8;have HF8:=hid F8;have HBo8:=hid Bo8;have HHF:=hid hfo;have HFV:=hid hfov;clear hob hfo hfov hRb hXb hXo hRb' hXb' hRb8 hXb8 hXo8 C8 F8 Bo8 hrl hgr0 hgx0 hn60 hown2 hb5 hb7 hb8 hA6;go_wp2_with fail;refine cRA.out.mono ?_;rintro e w9 ⟨⟨v1,rvr2,rfl,hv1,hR',hrb1⟩,K1⟩;have Bo9:=HBo8.out.stepR hR' hrb1 K1;have C9:=K1.blk HC8.out hnR;have F9:=K1.blk HF8.out hnF;have g0:=F9.free 0;have g1:=F9.free 1
  have c0:=(F9.cell 0).trans (rfl:_=some (Value.int .i64 ((0:Nat):Int)));have c1:=(F9.cell 1).trans (rfl:_=some (Value.int .i64 npl));obtain⟨W10,hW10⟩: ∃W10,(w9.setCell ⟨w5.heap.size,0,none⟩ (.int .i64 (ek:Nat))).setCell ⟨w5.heap.size,1,none⟩ (.int .i64 epl)=W10:=⟨_,rfl⟩;have K10:Y1 (fun k=>k=w5.heap.size) w9 W10:=by rw[←hW10];exact((Y1.refl (fun k=>k=w5.heap.size) w9).set ⟨w5.heap.size,0,none⟩ _ (.inl rfl)).set ⟨w5.heap.size,1,none⟩ _ (.inl rfl)
  have F10:Blk W10 w5.heap.size 38 #[.int .i64 (ek:Nat),.int .i64 epl]:=by rw[←hW10];exact(F9.set 0 _).set 1 _
  have C10:=K10.blk C9 (show ¬w.heap.size=w5.heap.size from Z7);have Bo10:=Bo9.box F9 Z7 K10;have cX10:=cXAll W10 rvr2 rec Bo10;have hz9:=K1.size;have hz10:=K10.size;have HBo10:=hid Bo10;have HF10:=hid F10;have HC10:=hid C10;clear Bo9 C9 F9 K10 F10 C10 Bo10 cXAll K1 hR' hrb1 hv1 f0 f1;go_wp2_with fail;refine cX10.out.mono ?_;rintro e w11 ⟨⟨v2,er,rvx2,rfl,her,hv2,hX',hrb2⟩,K2⟩;have Bo11:=HBo10.out.stepX hX' hrb2 K2
  have F11:=K2.blk HF10.out hnG;have C11:=K2.blk HC10.out hnX;have b11:=Bo11.b;have f0:=(F11.cell 0).trans (rfl:_=some (Value.int .i64 (ek:Nat)));have f1:=(F11.cell 1).trans (rfl:_=some (Value.int .i64 epl));have hz11:=K2.size;have HBo11:=hid Bo11;have HF11:=hid F11;have HC11:=hid C11;have HER:=hid her;clear Bo11 F11 C11 hX' hrb2 K2 hv2 cX10 cRA her g0 g1 c0 c1 hW10;go_wp2_with fail;refine(cp _ _ _ _ b11 HER.out).out.mono ?_
  rintro e w12 ⟨rfl,hb12⟩;have b12:=b11.trans (hb12.mono b11.size);have Bo12:=HBo11.out.below hb12;have F12:=HF11.out.below hb12;have C12:=HC11.out.below hb12;have t0:=(C12.cell 0).trans (rfl:_=some (Value.slice ta c.ts.length tc));have t1:=(C12.cell 1).trans (rfl:_=some (Value.slice ga c.gs.length gc));have t2:=(C12.cell 2).trans (rfl:_=some (Value.slice ua us.length uc));have t3:=(C12.cell 3).trans (rfl:_=some (Value.string (bs sn)))
  have t4:=(C12.cell 4).trans (rfl:_=some (Value.string (bs ss)));have t5:=(C12.cell 5).trans (rfl:_=some (Value.int .i64 lim));have t6:=(C12.cell 6).trans (rfl:_=some (Value.slice oa c.own.length oc));have hownv: ∀k,(c.own.getD k ([],[])).2.length≤100000:=fun k=>by have:=HFB.out.os.at k;exact Z7
  have cF:=hid (YcW ta ga ua oa tc gc uc oc c.ts c.gs us sn ss lim c.own c.name dc stat cmd w12 (CC.out.below b12) hownv (some ⟨gr,0,none⟩) (by have:=HFB.out.ol;exact Z7) (HPP.out.below b12 (Ye9 _)) (Ya5 _ _ _ _ _ _ _));have cG:=fun W (hq:Below w.heap.size w W)=>hid (fNew_any ta ga ua oa tc gc uc oc c.ts c.gs us sn ss lim c.own c.name dc stat cmd W (CC.out.below hq) hownv (some ⟨gx,0,none⟩) (Hg.out.below hq) (HTT.out.below hq (Ye9 _)) (Hev.out.below hq))
  unfold Y9B YS at cF;unfold Ybv at cG;unfold Y2I at cF cG;generalize Yt c.ts c.gs us sn ss lim c.own=RP at *;obtain⟨rk,rpl⟩:=RP;simp only at cF cG;have hz12:=hb12.size;have HBo12:=hid Bo12;have HF12:=hid F12;have HC12:=hid C12;clear Bo12 F12 C12 f0 f1;go_wp2_with fail;refine cF.out.mono ?_;rintro e w13 ⟨⟨qr,rfl,hq1,hq0⟩,hb13⟩;have Bo13:=HBo12.out.below hb13;have F13:=HF12.out.below hb13
  have C13:=HC12.out.below hb13;have g0:=F13.free 0;have g1:=F13.free 1;have c0:=(F13.cell 0).trans (rfl:_=some (Value.int .i64 (ek:Nat)));have c1:=(F13.cell 1).trans (rfl:_=some (Value.int .i64 epl));obtain⟨W14,hW14⟩: ∃W14,(w13.setCell ⟨w5.heap.size,0,none⟩ (.int .i64 (rk:Nat))).setCell ⟨w5.heap.size,1,none⟩ (.int .i64 rpl)=W14:=⟨_,rfl⟩;have K14:Y1 (fun k=>k=w5.heap.size) w13 W14:=by rw[←hW14];exact((Y1.refl (fun k=>k=w5.heap.size) w13).set ⟨w5.heap.size,0,none⟩ _ (.inl rfl)).set ⟨w5.heap.size,1,none⟩ _ (.inl rfl)
  have F14:Blk W14 w5.heap.size 38 #[.int .i64 (rk:Nat),.int .i64 rpl]:=by rw[←hW14];exact(F13.set 0 _).set 1 _
  have C14:=K14.blk C13 (show ¬w.heap.size=w5.heap.size from Z7);have Bo14:=Bo13.box F13 Z7 K14;have hz13:=hb13.size;have hz14:=K14.size;have b14:=Bo14.b;have t0:=(C14.cell 0).trans (rfl:_=some (Value.slice ta c.ts.length tc));have t1:=(C14.cell 1).trans (rfl:_=some (Value.slice ga c.gs.length gc));have t2:=(C14.cell 2).trans (rfl:_=some (Value.slice ua us.length uc));have t3:=(C14.cell 3).trans (rfl:_=some (Value.string (bs sn)))
  have t4:=(C14.cell 4).trans (rfl:_=some (Value.string (bs ss)));have t5:=(C14.cell 5).trans (rfl:_=some (Value.int .i64 lim));have t6:=(C14.cell 6).trans (rfl:_=some (Value.slice oa c.own.length oc));have HK14:=hid K14;have HBo14:=hid Bo14;have HF14:=hid F14;have HC14:=hid C14;clear Bo13 F13 C13 K14 Bo14 F14 C14 hb13 cF;go_wp2_with fail;refine(cG _ b14).out.mono ?_;rintro e w15 ⟨⟨qx,er,rfl,her,hx1,hx0⟩,hb15⟩
  have b15:=b14.trans (hb15.mono b14.size);have F15:=HF14.out.below hb15;have f0:=(F15.cell 0).trans (rfl:_=some (Value.int .i64 (rk:Nat)));have f1:=(F15.cell 1).trans (rfl:_=some (Value.int .i64 rpl));have HE2:=hid her;have HF15:=hid F15;clear t0 t1 t2 t3 t4 t5 t6 g0 g1 c0 c1 hW14 F15 cG her;by_cases hrk:rk=0
  ·subst hrk;obtain⟨Gr,rfl,hFR⟩:=hq0 rfl;obtain⟨Gx,rfl,hFX⟩:=hx0 rfl;clear hq0 hq1 hx0 hx1;go_wp2_with fail;refine(cp _ _ _ _ b15 HE2.out).out.mono ?_;rintro e w16 ⟨rfl,hb16⟩;have b16:=b15.trans (hb16.mono b15.size);have F16:=HF15.out.below hb16;have f0:=(F16.cell 0).trans (rfl:_=some (Value.int .i64 ((0:Nat):Int)));have f1:=(F16.cell 1).trans (rfl:_=some (Value.int .i64 rpl));clear F16;go_wp2_with fail
   go_at_call 10;refine(cis 0 rpl _).out.mono ?_;rintro e w17 ⟨rfl,hb17⟩;have b17:=b16.trans (hb17.mono b16.size);rw[Yel (rfl:(0:Nat)=0)];have hdc:=HDC.out;subst hdc;have Bo17:=((HBo14.out.below hb15).below hb16).below hb17;have hFR17:=(((hFR.kept HK14.out (fun k hk=>by have hk:k=w5.heap.size:=hk;exact Z7)).below hb15).below hb16).below hb17;have hFX17:=(hFX.below hb16).below hb17;obtain⟨pr,hGr0,hpr0,_,hGr,hPr⟩:=hFR17
   obtain⟨px,hGx0,hpx0,_,hGx,hPx⟩:=hFX17;have hw12:=b12.size;have hw14:=b14.size
   have XF:YaI w17 w.heap.size Gx px gx ov rvx2 (.slice none 0 0) (.slice ta c.ts.length tc) (.slice ga c.gs.length gc) (.slice ua us.length uc) (.slice oa c.own.length oc) sn ss lim c ⟨rec,stat,cmd,[],[],false⟩:=
    ⟨hGx,hPx,Bo17.X.blk,Bo17.X.hov,Bo17.X.hrv,Bo17.X.sg,YdH HBo14.out.X.hov Bo17.X.so hGx0 hpx0,Y2p.nil _ _,by omega,by omega,Bo17.hgx,by simp,hs0,hs1,hc0,hc1,fun x=>⟨by simp,by simp,by simp,by simp⟩⟩
   have RF:YO w17 w.heap.size Gr pr gr (.slice oa c.own.length oc) rvr2 (.slice none 0 0) (.slice ta c.ts.length tc) (.slice ga c.gs.length gc) (.slice ua us.length uc) (.slice oa c.own.length oc) sn ss lim c ⟨rec,stat,cmd,[],[],false⟩:=
    ⟨hGr,hPr,Bo17.R.blk,Bo17.R.hov,Bo17.R.hrv,Bo17.R.sg,YdH HBo12.out.R.hov Bo17.R.so hGr0 hpr0,Y2p.nil _ _,by omega,by omega,Bo17.hgr,by simp,hs0,hs1,hc0,hc1,fun x=>⟨by simp,by simp,by simp,by simp⟩⟩
   have hsx:=Bo17.sx
   have BF:Y5C w w17 Gx px gx Gr pr gr ov (.slice oa c.own.length oc) rvx2 rvr2 (.slice none 0 0) (.slice none 0 0) (.slice ta c.ts.length tc) (.slice ga c.gs.length gc) (.slice ua us.length uc) (.slice oa c.own.length oc) sn ss lim c ⟨rec,stat,cmd,[],[],false⟩ ⟨rec,stat,cmd,[],[],false⟩:=
    ⟨XF,RF,Bo17.ap,YdH HBo12.out.X.hov Bo17.fo hGr0 hpr0,Bo17.fm.mono (fun k hk=>by
      rcases hk with rfl | rfl | rfl | hk
      ·omega
      ·omega
      ·exact hsx _ (.inl rfl)
      ·exact hsx _ (.inr hk)),b17⟩
   have HBF:=hid BF;have hI0:Y8M ⟨rec,stat,cmd,[],[],false⟩ 60:=⟨by have:=HOB.out.2.2.2;simpa using this,HOB.out.2.1⟩;have HI0:=hid hI0
   have HENV:Hid (∀wr,Below w.heap.size w wr→Env w.heap.size wr∧(∀W,Y1 (fun k=>w.heap.size≤k) wr W→ML W)∧Y4f w.heap.size wr c us sn ss lim (.slice ta c.ts.length tc) (.slice ga c.gs.length gc) (.slice ua us.length uc) (.slice oa c.own.length oc)):=hid fun wr hb =>
    ⟨⟨fun W K=>by
      have q:=hb.trans (K.toBelow (fun k hk=>hk) hb.size)
      exact⟨HTT.out.below q (Ye9 _),HPP.out.below q (Ye9 _),Hev.out.below q,Hg.out.below q⟩⟩,fun W K=>HMM.out.below (hb.trans (K.toBelow (fun k hk=>hk) hb.size)),fun W K=>CC.out.below (hb.trans (K.toBelow (fun k hk=>hk) hb.size))⟩
   obtain⟨_,_,hveq,_,HLc⟩:=HL.out
   cases hveq
   have HLC:=hid HLc;clear Bo17 hFR hFX hGr hPr hGx hPx XF RF hsx BF hI0 HLc f0 f1 hb15 hb16 hb17 hGr0 hpr0 hGx0 hpx0;go_wp2_with fail;go_loopg [131] (L.length) (fun gk i wr=>RFPl w Gx px gx Gr pr gr ov (.slice oa c.own.length oc) (.slice ta c.ts.length tc) (.slice ga c.gs.length gc) (.slice ua us.length uc) (.slice oa c.own.length oc) sn ss lim c L.length gk i wr)
   case atStart=>exact⟨0,_,_,_,_,_,by omega,rfl,HI0.out,HBF.out⟩
   case round =>
    obtain⟨k,s,rvx,rvr,lvx,lvr,hgk,rfl,hinv,hBo⟩:=hrel;have hb:=hBo.b;have hB:=hb.size;by_cases hlt:k<L.length
    ·obtain⟨x,hx⟩: ∃x,L[k]?=some x:=⟨L[k]'hlt,Yec hlt⟩;obtain⟨b,o,rfl,hcell⟩:=HLC.out.resolve_left Z7;obtain⟨⟨c0,c1,c2,c3,c4,c5⟩,hI⟩:=hcell k x hx;have g0:=(hb.cell (Yeb c0)).trans c0;have g1:=(hb.cell (Yeb c1)).trans c1;have g2:=(hb.cell (Yeb c2)).trans c2;have g3:=(hb.cell (Yeb c3)).trans c3;have g4:=(hb.cell (Yeb c4)).trans c4
     have g5:=(hb.cell (Yeb c5)).trans c5;have hbl:=Yeb g0;clear hcell c0 c1 c2 c3 c4 c5 hx;obtain⟨op,now,flags,va,vc,vs,av,n,I,d⟩:=x;obtain⟨aa,ac,hav⟩:=Y4o hI.ahs;simp only at g0 g1 g2 g3 g4 g5 hI hav;subst hav;obtain⟨W18,hW18⟩: ∃W18,wr.alloc (.cells #[.int .i64 op,.bool now,.int .i64 flags,.slice va vs.length vc,.slice aa n ac,.string (bs d)] 63)=W18:=⟨_,rfl⟩;have P18:Blk W18 wr.heap.size 63 #[.int .i64 op,.bool now,.int .i64 flags,.slice va vs.length vc,.slice aa n ac,.string (bs d)]:=by rw[←hW18];exact Blk.new _ _ _
     have hA18:Below wr.heap.size wr W18:=by rw[←hW18];exact Ze
     have Bo18:=hBo.below hA18;obtain⟨p,hpe⟩: ∃p:PK,p=⟨op,now,flags,vs,n,I,d⟩:=⟨_,rfl⟩;have hpA: ∀W,Below w.heap.size w W→Y1Y w.heap.size W p (.slice va vs.length vc) (.slice aa n ac):=fun W hq W2 K=>by rw[hpe];exact Y79.below hI (hq.trans (K.toBelow (fun k hk=>hk) hq.size))
     have hO:=takeOk HFB.out hinv Z7 p;have cR:=hid (YcP p _ _ Bo18.R (HENV.out W18 Bo18.b).2.2 HFB.out.tl HFB.out.gl hO (hpA W18 Bo18.b) (HENV.out W18 Bo18.b).1 (HENV.out W18 Bo18.b).2.1 (fun j=>by have:=hinv.rs.at j;exact Z7));have cX:=fun W (rvr2 lvr2:Value) (s2:FSt) (Bo:Y5C w W Gx px gx Gr pr gr ov (.slice oa c.own.length oc) rvx rvr2 lvx lvr2 (.slice ta c.ts.length tc) (.slice ga c.gs.length gc) (.slice ua us.length uc) (.slice oa c.own.length oc) sn ss lim c s s2)=>hid (YdE p (.slice va vs.length vc) (.slice aa n ac) Bo.X (HENV.out W Bo.b).2.2 HFB.out.tl HFB.out.gl hO (hpA W Bo.b) (HENV.out W Bo.b).1)
     unfold Y1b at cR;unfold Y29 at cX;have hans:=takeP_vs c s p;have hinv':=Ycz (c:=c) p hinv;generalize Yu c s p=RT at *;obtain⟨s',ans,e1⟩:=RT;simp only at cR cX hans hinv';subst hpe;unfold pkV Y1a at cR cX;simp only at cR cX;have p0:=(P18.cell 0).trans (rfl:_=some (Value.int .i64 op));have p1:=(P18.cell 1).trans (rfl:_=some (Value.bool now));have p2:=(P18.cell 2).trans (rfl:_=some (Value.int .i64 flags))
     have p3:=(P18.cell 3).trans (rfl:_=some (Value.slice va vs.length vc));have p4:=(P18.cell 4).trans (rfl:_=some (Value.slice aa n ac));have p5:=(P18.cell 5).trans (rfl:_=some (Value.string (bs d)));have HP18:=hid P18;have HBo18:=hid Bo18;have HI':=hid hinv';have HANS:=hid hans;clear P18 Bo18 hinv' hinv hans hO hpA hI hBo hA18;go_wp2_with fail;refine cR.out.mono ?_;rintro e w19 ⟨v1,rvr',lvr',rfl,ha1,hR',rb1,K1⟩
     have Bo19:=HBo18.out.stepR hR' rb1 K1;have P19:=K1.blk HP18.out (YaY HBo18.out.R HP18.out Z16);have p0:=(P19.cell 0).trans (rfl:_=some (Value.int .i64 op));have p1:=(P19.cell 1).trans (rfl:_=some (Value.bool now));have p2:=(P19.cell 2).trans (rfl:_=some (Value.int .i64 flags));have p3:=(P19.cell 3).trans (rfl:_=some (Value.slice va vs.length vc));have p4:=(P19.cell 4).trans (rfl:_=some (Value.slice aa n ac))
     have p5:=(P19.cell 5).trans (rfl:_=some (Value.string (bs d)));have HBo19:=hid Bo19;have HA1:=hid ha1;have cX19:=cX _ _ _ _ Bo19;clear P19 Bo19 ha1 hR' rb1 K1 cX cR hW18
     obtain⟨q1,r1,hv1⟩: ∃a c,v1= .slice a ans.length c:=by
      rcases HA1.out with ⟨h1,h2⟩ | ⟨x,b,va,h1,h2,_⟩
      ·exact⟨none,0,by rw[h2,h1];rfl⟩
      ·exact⟨_,_,by rw[h2,h1];rfl⟩
     subst hv1;go_wp2_with fail;refine cX19.out.mono ?_;rintro e w20 ⟨v2,rvx',lvx',rfl,ha2,hX',rb2,K2⟩;have Bo20:=HBo19.out.stepX hX' rb2 K2;have A1:=HA1.out.kept HBo19.out.X K2 Z16 Z16;have n10:=(Bo20.X.blk.cell 10).trans (rfl:_=some (Value.int .u32 s'.stat));have n11:=(Bo20.X.blk.cell 11).trans (rfl:_=some (Value.int .u32 s'.cmd));have cN:=hid (YdI Gx s'.stat s'.cmd w20 n10 n11);have HBo20:=hid Bo20
     have HA12:=hid A1;have HA2:=hid ha2;clear Bo20 A1 ha2 hX' rb2 K2 n10 n11 cX19 p0 p1 p2 p3 p4 p5;go_wp2_with fail;refine cN.out.mono ?_;rintro e w21 ⟨rfl,hb21⟩;have Bo21:=HBo20.out.below hb21;have b21:=Bo21.b;have hA1:=HA12.out.at.below hb21;have hA2:=HA2.out.below hb21;have s14:=(Bo21.R.blk.cell 14).trans (rfl:_=some (Value.bool s'.closed));have s10:=(Bo21.R.blk.cell 10).trans (rfl:_=some (Value.int .u32 s'.stat))
     have s11:=(Bo21.R.blk.cell 11).trans (rfl:_=some (Value.int .u32 s'.cmd));have s0:=(Bo21.R.blk.cell 0).trans (rfl:_=some (Value.pointer (some ⟨gr,0,none⟩)));have sr:=(Bo21.R.neg.cell 1).trans (rfl:_=some rvr');have sx:=(Bo21.X.blk.cell 0).trans (rfl:_=some (Value.pointer (some ⟨gx,0,none⟩)));have x14:=(Bo21.X.blk.cell 14).trans (rfl:_=some (Value.bool s'.closed));have hrl:s'.rc.length≤100000:=by have:=HI'.out.rl;exact Z7
     have hBx:=Bo21.X.neg;have HPX:=hid (Yx Bo21.X.hrv);have HPR:=hid (Yx Bo21.R.hrv);have HBx:=hid hBx;have HX14:=hid x14;have HAA:=hid hA1;have HAB:=hid hA2;have HBo21:=hid Bo21;have HB21:=hid b21;have hcd:w21.drew.cell? ⟨Gr,14,none⟩=some (.bool s'.closed)∧w21.drew.cell? ⟨Gr,10,none⟩=some (.int .u32 s'.stat)∧w21.drew.cell? ⟨Gr,11,none⟩=some (.int .u32 s'.cmd)∧w21.drew.cell? ⟨Gr,0,none⟩=some (.pointer (some ⟨gr,0,none⟩))∧w21.drew.cell? ⟨gr,1,none⟩=some rvr'∧w21.drew.cell? ⟨Gx,0,none⟩=some (.pointer (some ⟨gx,0,none⟩))∧Below w21.heap.size w21 w21.drew:=⟨s14,s10,s11,s0,sr,sx,(Yea _ _).drew⟩
     have key2: ∀w' w'':World,(w'.cell? ⟨Gr,14,none⟩=some (.bool s'.closed)∧w'.cell? ⟨Gr,10,none⟩=some (.int .u32 s'.stat)∧w'.cell? ⟨Gr,11,none⟩=some (.int .u32 s'.cmd)∧w'.cell? ⟨Gr,0,none⟩=some (.pointer (some ⟨gr,0,none⟩))∧w'.cell? ⟨gr,1,none⟩=some rvr'∧w'.cell? ⟨Gx,0,none⟩=some (.pointer (some ⟨gx,0,none⟩))∧Below w21.heap.size w21 w')→Below w'.heap.size w' w''→w''.cell? ⟨Gr,14,none⟩=some (.bool s'.closed)∧w''.cell? ⟨Gr,10,none⟩=some (.int .u32 s'.stat)∧w''.cell? ⟨Gr,11,none⟩=some (.int .u32 s'.cmd)∧w''.cell? ⟨Gr,0,none⟩=some (.pointer (some ⟨gr,0,none⟩))∧w''.cell? ⟨gr,1,none⟩=some rvr'∧w''.cell? ⟨Gx,0,none⟩=some (.pointer (some ⟨gx,0,none⟩))∧Below w21.heap.size w21 w'':=by
      intro w' w'' ⟨h0,h1,h2,h3,h4,h5,h6⟩ hq;exact⟨(hq.cell (Yeb h0)).trans h0,(hq.cell (Yeb h1)).trans h1,(hq.cell (Yeb h2)).trans h2,(hq.cell (Yeb h3)).trans h3,(hq.cell (Yeb h4)).trans h4,(hq.cell (Yeb h5)).trans h5,h6.trans (hq.mono h6.size)⟩
     have dB: ∀ (w':World),(w'.cell? ⟨Gr,14,none⟩=some (.bool s'.closed)∧w'.cell? ⟨Gr,10,none⟩=some (.int .u32 s'.stat)∧w'.cell? ⟨Gr,11,none⟩=some (.int .u32 s'.cmd)∧w'.cell? ⟨Gr,0,none⟩=some (.pointer (some ⟨gr,0,none⟩))∧w'.cell? ⟨gr,1,none⟩=some rvr'∧w'.cell? ⟨Gx,0,none⟩=some (.pointer (some ⟨gx,0,none⟩))∧Below w21.heap.size w21 w')→Hid (Calls prog 19 #[errV 36 e1,.int .i64 (e1:Nat)] w' fun e w''=>e= .returned (.bool true)∧w''.cell? ⟨Gr,14,none⟩=some (.bool s'.closed)∧w''.cell? ⟨Gr,10,none⟩=some (.int .u32 s'.stat)∧w''.cell? ⟨Gr,11,none⟩=some (.int .u32 s'.cmd)∧w''.cell? ⟨Gr,0,none⟩=some (.pointer (some ⟨gr,0,none⟩))∧w''.cell? ⟨gr,1,none⟩=some rvr'∧w''.cell? ⟨Gx,0,none⟩=some (.pointer (some ⟨gx,0,none⟩))∧Below w21.heap.size w21 w''):=by
      intro w' hS;refine hid ((bare_ok (errV 36 e1) e1 w' (Hg.out.below (HB21.out.trans (hS.2.2.2.2.2.2.mono HB21.out.size))) (Y1c.errV w' e1)).mono ?_);exact Z3F
     have dE: ∀ (w':World),(w'.cell? ⟨Gr,14,none⟩=some (.bool s'.closed)∧w'.cell? ⟨Gr,10,none⟩=some (.int .u32 s'.stat)∧w'.cell? ⟨Gr,11,none⟩=some (.int .u32 s'.cmd)∧w'.cell? ⟨Gr,0,none⟩=some (.pointer (some ⟨gr,0,none⟩))∧w'.cell? ⟨gr,1,none⟩=some rvr'∧w'.cell? ⟨Gx,0,none⟩=some (.pointer (some ⟨gx,0,none⟩))∧Below w21.heap.size w21 w')→Hid (Calls prog 20 #[.slice q1 ans.length r1,v2,.func (.func 21) #[] #[]] w' fun e w''=>e= .returned (.bool true)∧w''.cell? ⟨Gr,14,none⟩=some (.bool s'.closed)∧w''.cell? ⟨Gr,10,none⟩=some (.int .u32 s'.stat)∧w''.cell? ⟨Gr,11,none⟩=some (.int .u32 s'.cmd)∧w''.cell? ⟨Gr,0,none⟩=some (.pointer (some ⟨gr,0,none⟩))∧w''.cell? ⟨gr,1,none⟩=some rvr'∧w''.cell? ⟨Gx,0,none⟩=some (.pointer (some ⟨gx,0,none⟩))∧Below w21.heap.size w21 w''):=by
      intro w' hS;refine hid ((Yca _ v2 ans w' (HAA.out.below hS.2.2.2.2.2.2) (HAB.out.below hS.2.2.2.2.2.2) HANS.out).mono ?_);exact Z3F
     have dC: ∀ (w':World),(w'.cell? ⟨Gr,14,none⟩=some (.bool s'.closed)∧w'.cell? ⟨Gr,10,none⟩=some (.int .u32 s'.stat)∧w'.cell? ⟨Gr,11,none⟩=some (.int .u32 s'.cmd)∧w'.cell? ⟨Gr,0,none⟩=some (.pointer (some ⟨gr,0,none⟩))∧w'.cell? ⟨gr,1,none⟩=some rvr'∧w'.cell? ⟨Gx,0,none⟩=some (.pointer (some ⟨gx,0,none⟩))∧Below w21.heap.size w21 w')→Hid (Calls prog 22 #[.pointer (some ⟨Gx,0,none⟩)] w' fun e w''=>e= .returned (.bool s'.closed)∧w''.cell? ⟨Gr,14,none⟩=some (.bool s'.closed)∧w''.cell? ⟨Gr,10,none⟩=some (.int .u32 s'.stat)∧w''.cell? ⟨Gr,11,none⟩=some (.int .u32 s'.cmd)∧w''.cell? ⟨Gr,0,none⟩=some (.pointer (some ⟨gr,0,none⟩))∧w''.cell? ⟨gr,1,none⟩=some rvr'∧w''.cell? ⟨Gx,0,none⟩=some (.pointer (some ⟨gx,0,none⟩))∧Below w21.heap.size w21 w''):=by
      intro w' hS;refine hid ((Yaw Gx s'.closed w' ((hS.2.2.2.2.2.2.cell (Yeb HX14.out)).trans HX14.out)).mono ?_);exact Z3F
     have dR: ∀ (w':World),(w'.cell? ⟨Gr,14,none⟩=some (.bool s'.closed)∧w'.cell? ⟨Gr,10,none⟩=some (.int .u32 s'.stat)∧w'.cell? ⟨Gr,11,none⟩=some (.int .u32 s'.cmd)∧w'.cell? ⟨Gr,0,none⟩=some (.pointer (some ⟨gr,0,none⟩))∧w'.cell? ⟨gr,1,none⟩=some rvr'∧w'.cell? ⟨Gx,0,none⟩=some (.pointer (some ⟨gx,0,none⟩))∧Below w21.heap.size w21 w')→Hid (Calls prog 24 #[.pointer (some ⟨gx,0,none⟩)] w' fun e w''=>(∃v3,e= .returned v3∧PSl w'' v3 s'.rc)∧w''.cell? ⟨Gr,14,none⟩=some (.bool s'.closed)∧w''.cell? ⟨Gr,10,none⟩=some (.int .u32 s'.stat)∧w''.cell? ⟨Gr,11,none⟩=some (.int .u32 s'.cmd)∧w''.cell? ⟨Gr,0,none⟩=some (.pointer (some ⟨gr,0,none⟩))∧w''.cell? ⟨gr,1,none⟩=some rvr'∧w''.cell? ⟨Gx,0,none⟩=some (.pointer (some ⟨gx,0,none⟩))∧Below w21.heap.size w21 w''):=by
      intro w' hS;refine hid ((Yak gx ov rvx' s'.rc w' (HPX.out.below hS.2.2.2.2.2.2) Z7 (HBx.out.below hS.2.2.2.2.2.2)).mono ?_);rintro e w'' ⟨he,hq⟩;exact⟨⟨_,he.choose_spec.1,Yx he.choose_spec.2⟩,key2 _ _ hS hq⟩
     have dQ: ∀ (v:Value) (w':World),PSl w' v s'.rc→(w'.cell? ⟨Gr,14,none⟩=some (.bool s'.closed)∧w'.cell? ⟨Gr,10,none⟩=some (.int .u32 s'.stat)∧w'.cell? ⟨Gr,11,none⟩=some (.int .u32 s'.cmd)∧w'.cell? ⟨Gr,0,none⟩=some (.pointer (some ⟨gr,0,none⟩))∧w'.cell? ⟨gr,1,none⟩=some rvr'∧w'.cell? ⟨Gx,0,none⟩=some (.pointer (some ⟨gx,0,none⟩))∧Below w21.heap.size w21 w')→Hid (Calls prog 23 #[v,rvr'] w' fun e w''=>e= .returned (.bool true)∧w''.cell? ⟨Gr,14,none⟩=some (.bool s'.closed)∧w''.cell? ⟨Gr,10,none⟩=some (.int .u32 s'.stat)∧w''.cell? ⟨Gr,11,none⟩=some (.int .u32 s'.cmd)∧w''.cell? ⟨Gr,0,none⟩=some (.pointer (some ⟨gr,0,none⟩))∧w''.cell? ⟨gr,1,none⟩=some rvr'∧w''.cell? ⟨Gx,0,none⟩=some (.pointer (some ⟨gx,0,none⟩))∧Below w21.heap.size w21 w''):=by
      intro v w' h1 hS;refine hid ((Y9o v rvr' s'.rc w' Z7 h1 (HPR.out.below hS.2.2.2.2.2.2)).mono ?_);exact Z3F
     clear key2 hA1 hA2 Bo21 b21 hBx x14 hb21;go_upto_region 23 with fail;go_region_held3 (fun w'=>w'.cell? ⟨Gr,14,none⟩=some (.bool s'.closed)∧w'.cell? ⟨Gr,10,none⟩=some (.int .u32 s'.stat)∧w'.cell? ⟨Gr,11,none⟩=some (.int .u32 s'.cmd)∧w'.cell? ⟨Gr,0,none⟩=some (.pointer (some ⟨gr,0,none⟩))∧w'.cell? ⟨gr,1,none⟩=some rvr'∧w'.cell? ⟨Gx,0,none⟩=some (.pointer (some ⟨gx,0,none⟩))∧Below w21.heap.size w21 w')
      (first | exact hcd | assumption | exact⟨by assumption,by assumption,by assumption,by assumption,by assumption,by assumption,by assumption⟩)
      (first
        | (go_at_call 19;refine(dB _ ?_).out.mono ?_;(first | exact hcd | assumption | exact⟨by assumption,by assumption,by assumption,by assumption,by assumption,by assumption,by assumption⟩);rintro e wA ⟨rfl,i0,i1,i2,i3,i4,i5,i6⟩)
        | (go_at_call 20;refine(dE _ ?_).out.mono ?_;(first | exact hcd | assumption | exact⟨by assumption,by assumption,by assumption,by assumption,by assumption,by assumption,by assumption⟩);rintro e wB ⟨rfl,j0,j1,j2,j3,j4,j5,j6⟩)
        | (go_at_call 22;refine(dC _ ?_).out.mono ?_;(first | exact hcd | assumption | exact⟨by assumption,by assumption,by assumption,by assumption,by assumption,by assumption,by assumption⟩);rintro e wC ⟨rfl,k0,k1,k2,k3,k4,k5,k6⟩)
        | (go_at_call 24;refine(dR _ ?_).out.mono ?_;(first | exact hcd | assumption | exact⟨by assumption,by assumption,by assumption,by assumption,by assumption,by assumption,by assumption⟩);rintro e wD ⟨⟨v3,rfl,hv3⟩,l0,l1,l2,l3,l4,l5,l6⟩)
        | (go_at_call 23;refine(dQ _ _ ?_ ?_).out.mono ?_;(assumption);(first | exact hcd | assumption | exact⟨by assumption,by assumption,by assumption,by assumption,by assumption,by assumption,by assumption⟩);rintro e wE ⟨rfl,m0,m1,m2,m3,m4,m5,m6⟩))
     all_goals
      go_wp2_with fail;go_roundg (gk - 1)
      case measure=>exact Z7
      case rel=>exact⟨k+1,s',rvx',rvr',lvx',lvr',by omega,by go_num,HI'.out.mono Z7,HBo21.out.below (by assumption)⟩
    ·obtain rfl:k=L.length:=Z7;have hlt2: ¬((L.length:Int) < (L.length:Int)):=Z7;clear hBo hinv;exact Z4g
  ·obtain rfl:=hq1 hrk;obtain rfl:=hx1 hrk;have Hrk:=hid hrk;clear hq0 hq1 hx0 hx1 hrk;go_wp2_with fail;refine(cp _ _ _ _ b15 HE2.out).out.mono ?_;rintro e w16 ⟨rfl,hb16⟩;have b16:=b15.trans (hb16.mono b15.size);have F16:=HF15.out.below hb16;have f0:=(F16.cell 0).trans (rfl:_=some (Value.int .i64 (rk:Nat)));have f1:=(F16.cell 1).trans (rfl:_=some (Value.int .i64 rpl));clear F16;go_wp2_with fail;go_at_call 10
   refine(cis rk rpl _).out.mono ?_;rintro e w17 ⟨rfl,hb17⟩;have b17:=b16.trans (hb17.mono b16.size);rw[Yeh Hrk.out];go_wp2;go_ret;exact⟨rfl,b17⟩
 ·rw[Yeh hnk];obtain rfl:=hr1 hnk;obtain rfl:=hx1 hnk;have HER:=hid (her.below hb8);have Hnk:=hid hnk;have HF8:=hid F8;clear hr0 hr1 hx0 hx1 her hnk HGN F8 C8;go_wp2_with fail;refine(cp _ _ _ _ b8 HER.out).out.mono ?_;rintro e w9 ⟨rfl,hb9⟩;have b9:=b8.trans (hb9.mono b8.size);have F9:=HF8.out.below hb9;have f0:=(F9.cell 0).trans (rfl:_=some (Value.int .i64 (nk:Nat)));have f1:=(F9.cell 1).trans (rfl:_=some (Value.int .i64 npl))
  clear F9;go_wp2_with fail;refine(cis nk npl _).out.mono ?_;rintro e w10 ⟨rfl,hb10⟩;have b10:=b9.trans (hb10.mono b9.size);rw[Yeh Hnk.out];go_wp2;go_ret;exact⟨rfl,b10⟩
end
end
section
open Go.Proofs.Tryz
open Go Go.RowKit Go.ChangeShapes Go.WideShapes
theorem YbQ{H:Type}{enc:TypeId×Value→H}{W:World}{fuel:Nat}{a0:Option Addr}{len cap:Nat}{x:DataW H×List MemPlace}
 (h:DataW.trod enc prog W 0 (fun _=>true) true fuel 27 (Value.slice a0 len cap).cells.toList=some x) (hb:Rows.uptoBulk x.1≤1048576):
 ∃l:PL,len=l.length∧PSl W (.slice a0 l.length cap) l∧Y1U szP l≤1048576∧l.length≤cap:=by
 obtain⟨a,l,c,e,h1,h2,h3⟩:=Y4E underlying27 underlying78 rfl (by kernel_rfl) rfl rfl rfl rfl h;have e: [Value.slice a0 len cap]= [.slice a l.length c]:=e;simp only[Yfm,Value.slice.injEq,Ygm]at e;obtain⟨rfl,rfl,rfl⟩:=e;exact⟨l,rfl,h1,by omega,h3⟩
theorem pdus_arg{H:Type}{enc:TypeId×Value→H}{W:World}{fuel:Nat}{a0:Option Addr}{len cap:Nat}{x:DataW H×List MemPlace}
 (h:DataW.trod enc prog W 0 (fun _=>true) true fuel 31 (Value.slice a0 len cap).cells.toList=some x) (hb:Rows.uptoBulk x.1≤1048576):
 ∃l:List PD,len=l.length∧PdSl W (.slice a0 l.length cap) l∧Y1U szD l≤1048576:=by
 obtain⟨a,l,c,e,h1,h2⟩:=Ydd h;have e: [Value.slice a0 len cap]= [.slice a l.length c]:=e;simp only[Yfm,Value.slice.injEq,Ygm]at e;obtain⟨rfl,rfl,rfl⟩:=e;exact⟨l,rfl,h1,by omega⟩
theorem Y8g(ta ga ua oa ofa la:Option Addr)(tc gc uc oc ofc lc:Nat)(ts:List (List UInt8))(gs:GL)(us:PL)(sn ss:List UInt8)(lim:Int)(own offers:PL)(name:ByteArray)(disc:Bool)(stat cmd:Int)(L:List PD)(w:World)
 (C:YD w ts gs us sn ss lim own (.slice ta ts.length tc) (.slice ga gs.length gc) (.slice ua us.length uc) (.slice oa own.length oc))
 (hof:PSl w (.slice ofa offers.length ofc) offers) (hofb:Y1U szP offers≤1048576) (hofc:offers.length≤ofc) (hname:name.size≤maxLen) (hs0:0≤stat) (hs1:stat≤4294967295) (hc0:0≤cmd) (hc1:cmd≤4294967295)
 (hL:PdSl w (.slice la L.length lc) L) (hLb:Y1U szD L≤1048576) (hM:ML w) (hLa:laidMetH prog Rows.fullPlaysUptoRow.laid w):
 Calls prog 3 #[Y2I (.slice ta ts.length tc) (.slice ga gs.length gc) (.slice ua us.length uc) (.slice oa own.length oc) sn ss lim,.slice ofa offers.length ofc,.string name,.bool disc,.int .u32 stat,.int .u32 cmd,.slice la L.length lc] w fun e w'=>e= .returned (.bool true)∧Below w.heap.size w w':=by
 have:=Y8h ta ga ua oa ofa la tc gc uc oc ofc lc us offers sn ss lim stat cmd ⟨own,ts,gs,name.data.toList,disc⟩ L w C hof hofb hofc hL hLb (by unfold maxLen at hname;exact Z3Q) hs0 hs1 hc0 hc1 (cardBase.etype_of_laid (by simp[Rows.fullPlaysUptoRow]) hLa)
  (cardBase.tab_of_laid (n:=256) (t:=316) (e:=5) (L:=Rows.fullPlaysUptoRow.laid) (by kernel_rfl) Ye1 (by kernel_rfl) underlying316 underlying5 (by kernel_rfl) (by kernel_rfl) hLa)
  ⟨Y49 (L:=Rows.fullPlaysUptoRow.laid) (name:= "strconv.ErrSyntax") (nm:= "*errors.errorString") (d:= .ptr (.agg [.lit (.string [105,110,118,97,108,105,100,32,115,121,110,116,97,120])])) (by kernel_rfl) (by kernel_rfl) (by kernel_rfl) underlying43 hLa,Y49 (L:=Rows.fullPlaysUptoRow.laid) (name:= "strconv.ErrRange") (nm:= "*errors.errorString") (d:= .ptr (.agg [.lit (.string [118,97,108,117,101,32,111,117,116,32,111,102,32,114,97,110,103,101])])) (by kernel_rfl) (by kernel_rfl) (by kernel_rfl) underlying43 hLa⟩
  (cardBase.tab_of_laid (n:=20) (t:=400) (e:=106) (L:=Rows.fullPlaysUptoRow.laid) (by kernel_rfl) Yd3 (by kernel_rfl) underlying400 underlying106 (by kernel_rfl) (by kernel_rfl) hLa) hM
 simp only at this
 rwa [Y4b]at this
end
end Go.Proofs.YtfadikchijkcfaaGreatDoor
