/- A session behind a login: what a field has, how much may be sent, a PDU that is refused. -/
import Derived.Test.YtfadikchijkcfaaGreatDoorParsePure
import Derived.Test.YtfadikchijkcfaaGreatDoorFullSt
import Derived.Test.YtfadikchijkcfaaGreatDoorNegoAnswer
import Derived.Test.YtfadikchijkcfaaGreatDoorNumerals
import Derived.Test.YtfadikchijkcfaaGreatDoorSame
import Derived.Test.YtfadikchijkcfaaGreatDoorTCrowd
import Derived.Test.YtfadikchijkcfaaGreatDoorThick
set_option linter.unusedVariables false
set_option linter.unusedSectionVars false
set_option linter.unusedSimpArgs false
set_option maxRecDepth 100000
set_option maxHeartbeats 4000000
namespace Go.Proofs.YtfadikchijkcfaaGreatDoor
section
open Go.Proofs.Tryz
open Go Go.RowKit
def PKIn(w:World)(p:PK)(v av:Value):Prop:=Y79 w p.op p.flags v p.vs av p.n p.I p.d
def pkV(p:PK)(v av:Value):Value:=Y1a p.op p.now p.flags v av p.d
theorem PKIn.forms{w:World}{p:PK}{v av:Value}(h:PKIn w p v av):(∃a c,v= .slice a p.vs.length c)∧ ∃a c,av= .slice a p.n c:=by
 obtain⟨a,c,hv,_⟩:=h.vals;exact⟨⟨a,c,hv⟩,Y4o h.ahs⟩
def pkC(p:PK)(v av:Value):Array Value:= #[.int .i64 p.op,.bool p.now,.int .i64 p.flags,v,av,.string (bs p.d)]
theorem Ybw(fs:List FR)(vs:List Nat)(l:List UInt8)(hl:l.length=48)(hf: ∀f∈fs,f.at_+f.size≤48):(Y3u fs vs l).length=48:=by
 induction fs generalizing vs l with
 | nil=>exact hl
 | cons f fs ih =>
  cases vs with
  | nil=>exact hl
  | cons x vs =>
   rw[Y3u];have h1:=hf f Z2t;exact ih vs _ (by simp[Y5p,Y2n,hl];exact Z7) (fun g hg=>hf g (by simp[hg]))
theorem Y4k{p:PK}(h:Y2L p.op p.now p.flags p.vs p.n p.I p.d=0):(Yo p.op p.now p.flags p.vs).1=0∧p.d.length≤100000:=by
 unfold Y2L at h
 split at h
 ·rename_i h1
  exact absurd h h1
 ·rename_i h1
  split at h
  ·rename_i h2
   exact absurd h h2
  ·split at h
   ·cases h
   ·exact Z7
theorem Yda{p:PK}(h:Y2L p.op p.now p.flags p.vs p.n p.I p.d=0):(Y1F p.op p.now p.flags p.vs 0 (p.d.length:Nat)).1.length=48:=by
 obtain⟨h1,h2⟩:=Y4k h;obtain⟨r,hr⟩:=Y43 _ _ _ _ h1;unfold Y1F;rw[Yed Z7,Yed Z7];refine Ybw _ _ _ (Y3P _ _ _ _ _) (fun f hf=> ?_);rw[hr.find]at hf;have:=(YC r (YR hr.find)).2.2.2.2.2.2.2 f hf;exact Z7
theorem Zc{P Q:Prop}(k:Q)(h:Q→P:=by
 obtain⟨W1,hW1⟩: ∃W1,w.alloc (.cells (pkC p (.slice va p.vs.length vc) (.slice aa p.n ac)) 63)=W1:=⟨_,rfl⟩
 have b1:Below w.heap.size w W1:=by rw[←hW1];exact(Yea _ _).alloc (Ye9 _) _
 have B1:Blk W1 w.heap.size 63 (pkC p (.slice va p.vs.length vc) (.slice aa p.n ac)):=by rw[←hW1];exact Blk.new _ _ _
 refine fun z_=>?_
 revert B1;revert b1;revert hW1;revert W1
 exact z_):P:=h k
theorem Z3X{P:Prop}(h:P:=by
 go_wp2_with fail
 refine cv.out.mono ?_
 rintro e w2 ⟨rfl,hb2⟩
 go_wp2
 go_ret
 exact⟨rfl,b1.trans (hb2.mono b1.size)⟩):P:=h
theorem Z1t{P Q:Prop}(k:Q)(h:Q→P:=by
 simp only[YeI]at hA
 have k5:=k4.alloc k4.size (.cells #[.int .i64 63,.bool false,.int .i64 128,.slice sa (Y4C reason s.stat s.cmd).length sc,.slice none 0 0,.string (bs hd)] 63)
 have hF:=HF.out.own (w':=w3) K3 (up1 s.stat) s.cmd lv s.left s.closed hB3 (HF.out.lft.kept K3 (fun b cs hb e=>by
  have e:b=g:=e
  subst e
  exact Ym hb HF.out.blk (by decide) rfl)) (by unfold up1;omega) (by unfold up1;omega) HF.out.c0 HF.out.c1 (by decide) (by decide) (by decide)
 have HA:=hid hA
 have HF5:=hid (hF.below k5)
 have HK:=hid (K3.below k5)
 clear hA k5 hF
 refine fun z_=>?_
 revert HK;revert HF5;revert HA
 exact z_):P:=h k
theorem Z2B{P Q:Prop}(k:Q)(h:Q→P:=by
 have K3:Y1 (fun k=>k=g) w w3:=((Y1.refl _ w).below b2).trans hK (fun i hi=> .inl hi)
 have k4:Below w3.heap.size w3 (w3.alloc (.cells #[.int .i64 63,.bool false,.int .i64 128,.slice sa (Y4C reason s.stat s.cmd).length sc,.slice none 0 0,.string (bs hd)] 63)):=(Yea _ _).alloc (Ye9 _) _
 have hsl4:=hsl.below (Ye9 _) k4
 refine fun z_=>?_
 revert hsl4;revert k4;revert K3
 exact z_):P:=h k
theorem Z4g{P:Prop}(h:P:=by
 go_wp2
 go_ret
 exact⟨rfl,hb⟩):P:=h
section
variable (p:PK)(v av:Value)(w:World)(hp:PKIn w p v av)(hT:AS w)(hP:PT w)
include hp hT hP
theorem Y2z(name:List UInt8):Calls prog 69 #[pkV p v av,.string (bs name)] w fun e w'=>e= .returned (.int .u64 (p.v name:Nat))∧Below w.heap.size w w':=by
 obtain⟨⟨va,vc,rfl⟩,aa,ac,rfl⟩:=hp.forms;refine Zc ?_;intro W1 hW1 b1 B1;have cv:=hid (value_h p.op p.now p.flags _ p.vs name W1 hp.op0 hp.op1 hp.len (hp.vals.below (Ye9 _) b1) (hT.below b1 (Ye9 _)) (hP.below b1 (Ye9 _)));refine Zo ?_;intro t0 t1 t2 t3;unfold Y1A at cv;unfold pkC at hW1;unfold pkV Y1a PK.v;clear hp hT hP B1;go_enter func69,ntmps69;exact Z3X
end
section
variable {T TG:TypeId}{w:World}{B g gp gn:Nat}{ov rv lv ta ga ua oa:Value}{sn ss:List UInt8}{lim:Int}{c:FCf}{s:FSt}
theorem Y9k(h:Yl 82 215 127 w B g gp gn ov rv lv ta ga ua oa sn ss lim c s)(hr:s.rc.length≤1000000)(hrl: ∀k,(s.rc.getD k ([],[])).2.length≤100000)(hT:AS w)(hev:EV w)(hP:PT w):
 Calls prog 112 #[.pointer (some ⟨g,0,none⟩)] w fun e w'=>e= .returned (.int .i64 (Y1N s.rc))∧Below w.heap.size w w':=by
 have t0:=(h.blk.cell 0).trans (rfl:_=some (Value.pointer (some ⟨gn,0,none⟩)));have cv:=hid (YbU gn ov rv s.rc Y1t w h.neg Z16 hT (Yx h.hrv) Z7);have hl:=Y87 (key:=Y1t) hrl Z7;have cn:=fun W (hb:Below w.heap.size w W)=>hid (Y5O (ofP s.rc Y1t).1 512 20000 W Z7 Z7 Z7 Z7 Z7 (hev.below hb))
 have hf:=Y5v (ofP s.rc Y1t).1;have hm:Y1N s.rc=if(Y1D (ofP s.rc Y1t).1 512 20000).2=0 then(Y1D (ofP s.rc Y1t).1 512 20000).1 else 20000:=rfl;generalize Y1N s.rc=M at *;generalize Y1D (ofP s.rc Y1t).1 512 20000=R at *;obtain⟨R1,R2⟩:=R;simp only at *;generalize ofP s.rc Y1t=O at *;obtain⟨O1,O2⟩:=O;simp only at *;clear h hT hev hP;go_enter func112,ntmps112
 go_wp2_with fail;refine cv.out.mono ?_;rintro e w2 ⟨rfl,hb2⟩;go_wp2_with fail;refine(cn _ hb2).out.mono ?_;rintro e w3 ⟨rfl,hb3⟩;have hb:=hb2.trans (hb3.mono hb2.size);by_cases h0:R2=0
 ·have h1:=hf.1 h0;rw[Yei h0]at hm;have hz:(R1 == 0)=false:=Z1r;subst hm;clear h0 h1 hf;exact Z4g
 ·have h1:=hf.2 h0;rw[Yed h0]at hm;subst hm h1;exact Z4g
theorem YcZ{reason:Int}{hd:List UInt8}(h0:0≤reason)(h1:reason≤255)(h2:hd.length=48):Y4t reason hd=0:=by
 unfold Y4t;rw[Yed Z7,Yed Z7]
def Y1R(T TG TN:TypeId)(w:World)(B g gp gn:Nat)(ov rv lv ta ga ua oa:Value)(sn ss:List UInt8)(lim:Int)(c:FCf)(R:FSt×List An)(e:Ending)(w':World):Prop:=
 ∃v,e= .returned v∧Y74 w' v R.2∧Yl T TG TN w' B g gp gn ov rv lv ta ga ua oa sn ss lim c R.1∧Y1 (fun k=>k=g) w w'
theorem Y1J(p:PK)(v av:Value)(reason:Int)(h:Yl 82 215 127 w B g gp gn ov rv lv ta ga ua oa sn ss lim c s)(hp:PKIn w p v av)(hE:Y2L p.op p.now p.flags p.vs p.n p.I p.d=0)(h0:0≤reason)(h1:reason≤255)(hT:AS w)(hP:PT w):
 Calls prog 68 #[.pointer (some ⟨g,0,none⟩),pkV p v av,.int .i64 reason] w fun e w'=>Y1R 82 215 127 w B g gp gn ov rv lv ta ga ua oa sn ss lim c (Y34 s p reason) e w':=by
 obtain⟨⟨va,vc,rfl⟩,aa,ac,rfl⟩:=hp.forms;refine Zc ?_;intro W1 hW1 b1 B1;have cw:=hid (Ycw p.op p.now p.flags _ p.vs 0 (p.d.length:Nat) W1 hp.op0 hp.op1 hp.fl0 hp.fl1 hp.len hp.fits (hp.vals.below (Ye9 _) b1) (hT.below b1 (Ye9 _)) (hP.below b1 (Ye9 _)));have hlen:=Yda hE;have hR:Y34 s p reason=({s with stat:=up1 s.stat},[⟨63,128,Y4C reason s.stat s.cmd,(Y1F p.op p.now p.flags p.vs 0 (p.d.length:Nat)).1⟩]):=rfl
 refine Zo ?_;intro t0 t1 t2 t3;have t5:=(B1.cell 5).trans (rfl:_=some (Value.string (bs p.d)));have HF:=hid h;have cr:=fun W hd (hb:Below w.heap.size w W) (hl:hd.length=48)=>hid (Yav g _ _ _ _ _ _ _ _ _ _ s.stat s.cmd _ _ _ hd reason W (h.below hb).blk h.s0 h.s1 h.c0 h.c1 (hT.below hb (Ye9 _)) (hP.below hb (Ye9 _)) (fun st i x=>h.far st s.cmd s.closed i x))
 unfold Y6Y Y1A at cw;unfold pkC at hW1;unfold pkV Y1a;rw[hR];generalize Y1F p.op p.now p.flags p.vs 0 (p.d.length:Nat)=WR at *;obtain⟨hd,w1,w2⟩:=WR;simp only at *;clear hp hT hP B1 hR h;go_enter func68,ntmps68;go_wp2_with fail;refine cw.out.mono ?_;rintro e w2 ⟨ev,rfl,-,hb2⟩;have b2:=b1.trans (hb2.mono b1.size);go_wp2_with fail;refine(cr w2 hd b2 hlen).out.mono ?_;unfold Y6d
 rw[YcZ h0 h1 hlen];simp only[Yfw];rintro e w3 ⟨v,rfl,hsl,hK,hB3⟩;obtain⟨sa,sc,rfl,-⟩: ∃sa sc,v= .slice sa (Y4C reason s.stat s.cmd).length sc∧True:=Z14;unfold Y1a;refine Z2B ?_;intro K3 k4 hsl4;have hA:=Y5y (op:=63) (flags:=128) (d:=hd) hsl4;refine Z1t ?_;clear hA hsl hsl4 k4 K3 hK hB3 cr cw hb2 b2;intro HA HF5 HK;go_wp2;go_ret;exact⟨_,rfl,HA.out,HF5.out,HK.out⟩
end
end
section
open Go.Proofs.Tryz
open Go Go.RowKit
structure Env(B:Nat)(w:World):Prop where
 all: ∀W,Y1 (fun k=>B≤k) w W→AS W∧PT W∧EV W∧Y2e W
def Y1Y(B:Nat)(w:World)(p:PK)(v av:Value):Prop:= ∀W,Y1 (fun k=>B≤k) w W→PKIn W p v av
theorem Env.kept{B:Nat}{w w':World}(h:Env B w)(K:Y1 (fun k=>B≤k) w w'):Env B w':=⟨fun W hW=>h.all W (K.trans hW (fun i hi=> .inl hi))⟩
theorem Y1Y.kept{B:Nat}{w w':World}{p:PK}{v av:Value}(h:Y1Y B w p v av)(K:Y1 (fun k=>B≤k) w w'):Y1Y B w' p v av:=fun W hW=>h W (K.trans hW (fun i hi=> .inl hi))
theorem Y83{p:PK}(hE:Y2L p.op p.now p.flags p.vs p.n p.I p.d=0){name:List UInt8}{size:Nat}(hs: ∀r,Y1e p.op=some r→ ∀f∈r.fields,f.name=name→f.size≤size):p.v name<256 ^ size:=by
 obtain⟨h1,_⟩:=Y4k hE;obtain⟨r,hr⟩:=Y43 _ _ _ _ h1;have hp:0<256 ^ size:=Nat.pow_pos Z7;have hs:=hs r hr.find;have hfit:=hr.fits;unfold PK.v Y3j;rw[hr.find];simp only;generalize r.fields=fs at hs hfit;clear hr h1 hE;generalize p.vs=vs at hfit
 induction fs generalizing vs with
 | nil=>exact hp
 | cons f fs ih =>
  unfold Y3p
  split
  ·rename_i hn
   cases vs with
   | nil=>exact hp
   | cons x vs =>
    have:=hfit 0 f x rfl rfl;have h2:=hs f Z2t hn;exact Yee this (Nat.pow_le_pow_right Z7 h2)
  ·exact ih (fun g hg hn=>hs g (by simp[hg]) hn) vs.tail (fun k g x hg hx=>hfit (k+1) g x (by simpa using hg) (by cases vs with | nil=>simp at hx | cons y vs=>simpa using hx))
theorem itt_fine:Yd.all (fun r=>r.fields.all fun f=>decide (f.name=Ye→f.size≤4))=true:=by decide +kernel
theorem lun_fine:Yd.all (fun r=>r.fields.all fun f=>decide (f.name=Y2P→f.size≤8))=true:=by decide +kernel
theorem cmd_fine:Yd.all (fun r=>r.fields.all fun f=>decide (f.name=Y1d→f.size≤4))=true:=by decide +kernel
theorem Y4Z{p:PK}(hE:Y2L p.op p.now p.flags p.vs p.n p.I p.d=0):p.v Ye<4294967296:=
 Y83 hE (size:=4) (fun r hr f hf hn=>by
  have:=Yew.1 (Yew.1 itt_fine r (YR hr)) f hf
  exact YeE this hn)
theorem Ydb{p:PK}(hE:Y2L p.op p.now p.flags p.vs p.n p.I p.d=0):p.v Y1d<4294967296:=
 Y83 hE (size:=4) (fun r hr f hf hn=>by
  have:=Yew.1 (Yew.1 cmd_fine r (YR hr)) f hf
  exact YeE this hn)
theorem Yd9{p:PK}(hE:Y2L p.op p.now p.flags p.vs p.n p.I p.d=0):p.v Y2P<18446744073709551616:=
 Y83 hE (size:=8) (fun r hr f hf hn=>by
  have:=Yew.1 (Yew.1 lun_fine r (YR hr)) f hf
  exact YeE this hn)
theorem blk_at{w W:World}{g:Nat}{T:TypeId}{cs:Array Value}(h:Blk w g T cs)(hb:Below w.heap.size w W):Blk W g T cs:=h.below hb
theorem Z1o{P Q:Prop}(k:Q)(h:Q→P:=by
 have z3:W3.heap.size=w.heap.size+2:=by rw[←hW3];simp[z2]
 have B3:=B2.below k3
 have hV3:=hV.all W3 (Y3N (K2.below k3) hgB)
 have hV2:=hV.all W2 (Y3N K2 hgB)
 have cv:=hid (Y2z p _ _ W3 (hp W3 (Y3N (K2.below k3) hgB)) hV3.1 hV3.2.1 Ye)
 have t0:=(B3.cell 0).trans (rfl:_=some (Value.int .i64 p.op))
 have t1:=(B3.cell 1).trans (rfl:_=some (Value.bool p.now))
 have t2:=(B3.cell 2).trans (rfl:_=some (Value.int .i64 p.flags))
 have t3:=(B3.cell 3).trans (rfl:_=some (Value.slice va p.vs.length vc))
 have t4:=(B3.cell 4).trans (rfl:_=some (Value.slice aa p.n ac))
 have t5:=(B3.cell 5).trans (rfl:_=some (Value.string (bs p.d)))
 have hitt:=Y4Z hE
 refine fun z_=>?_
 revert hitt;revert t5;revert t4;revert t3;revert t2;revert t1;revert t0;revert cv;revert hV2;revert hV3;revert B3;revert z3
 exact z_):P:=h k
theorem Z4y{P Q:Prop}(k:Q)(h:Q→P:=by
 have hp0:=hp w (Y1.refl _ _)
 refine fun z_=>?_
 revert hp0
 exact z_):P:=h k
section
variable {w:World}{B g gp gn:Nat}{ov rv lv ta ga ua oa:Value}{sn ss:List UInt8}{lim:Int}{c:FCf}{s:FSt}
theorem Y3N{B g:Nat}{w w':World}(h:Y1 (fun k=>k=g) w w')(hg:B≤g):Y1 (fun k=>B≤k) w w':=h.mono (fun k hk=>by have hk:k=g:=hk;omega)
theorem Y6L(op flags:Int)(data:List UInt8)(nv vv:Value)(ns:List (List UInt8))(vs xs:List Nat)(W:World)(h:Yl 82 215 127 w B g gp gn ov rv lv ta ga ua oa sn ss lim c s)(hb:Below w.heap.size w W)
 (hM:Y3L op flags (ns ++ Y3G) (vs ++ Y4q s.stat s.cmd)=(0,-1,xs)) (h0:0≤op) (h1:op≤255) (g0:0≤flags) (g1:flags≤255) (hn:ns.length≤50) (hm:vs.length≤50) (hv: ∀x∈vs,x≤18446744073709551615)
 (hno:W.ownsRow w.heap.size 9 1 nv ns.length (strCells ns)) (hvo:W.ownsRow w.heap.size 106 1 vv vs.length (Yb vs)) (hap:nv.ownBlock=none∨nv.ownBlock≠vv.ownBlock) (hT:AS w) (hP:PT w):
 Calls prog 113 #[.pointer (some ⟨g,0,none⟩),.int .i64 op,.int .i64 flags,.string (bs data),nv,vv] W fun e w' =>
  ∃v,e= .returned (Y1a op false flags v (.slice none 0 0) data)∧Sl w' v 1 xs.length (Yb xs)∧Y1 (fun k=>k=g) w w'∧Yl 82 215 127 w' B g gp gn ov rv lv ta ga ua oa sn ss lim c {s with stat:=up1 s.stat}:=by
 have cm:=Y9l g _ _ _ _ _ _ _ _ _ _ s.stat s.cmd _ _ _ op flags data nv vv ns vs w W (blk_at h.blk hb) h.blk.lt h.s0 h.s1 h.c0 h.c1 (by omega) (by omega) (by omega) (by omega) hn hm hv hb hno hvo hT hP (fun st i x=>h.far st s.cmd s.closed i x) hap
 refine cm.mono ?_
 unfold Y72
 rw[hM]
 simp only[Yfw]
 rintro e w' ⟨v,rfl,hsl,hK,hB⟩
 exact⟨v,rfl,hsl,hK,h.own hK (up1 s.stat) s.cmd lv s.left s.closed hB (h.lft.kept hK (fun b cs hb e=>by
  have e:b=g:=e
  subst e
  exact Ym hb h.blk (by decide) rfl)) (by unfold up1;omega) (by unfold up1;omega) h.c0 h.c1 (by decide) (by decide) (by decide)⟩
theorem fout_any(p:PK)(v av:Value)(h:Yl 82 215 127 w B g gp gn ov rv lv ta ga ua oa sn ss lim c s)(hp:Y1Y B w p v av)(hE:Y2L p.op p.now p.flags p.vs p.n p.I p.d=0)(hV:Env B w):
 Calls prog 67 #[.pointer (some ⟨g,0,none⟩),pkV p v av] w fun e w'=>Y1R 82 215 127 w B g gp gn ov rv lv ta ga ua oa sn ss lim c (Ydp s p) e w':=by
 refine Z4y ?_;intro hp0;obtain⟨⟨va,vc,rfl⟩,aa,ac,rfl⟩:=hp0.forms;refine Zc ?_;intro W1 hW1 b1 B1;have hgl:=h.blk.lt;have hgB:=h.gB;have G1:=h.blk.below b1;have f14:=G1.free 14;have s14:=(G1.cell 14).trans (rfl:_=some (Value.bool s.closed));obtain⟨W2,hW2⟩: ∃W2,W1.setCell ⟨g,14,none⟩ (.bool true)=W2:=⟨_,rfl⟩;have K2:Y1 (fun k=>k=g) w W2:=by rw[←hW2];exact((Y1.refl _ w).below b1).set _ _ (.inl rfl)
 have G2:Blk W2 g 82 (Y14 (.pointer (some ⟨gn,0,none⟩)) ta ga ua oa sn ss lim c.name c.disc s.stat s.cmd (.pointer (some ⟨gp,0,none⟩)) lv true):=by rw[←hW2];exact G1.set 14 _
 have B2:Blk W2 w.heap.size 63 (pkC p (.slice va p.vs.length vc) (.slice aa p.n ac)):=by rw[←hW2];exact Y1k B1 14 _ Z7
 have z2:W2.heap.size=w.heap.size+1:=by rw[←hW2,←hW1];exact Z3j
 have h2:=h.own K2 s.stat s.cmd lv s.left true G2 (h.lft.kept K2 (fun b cs hb e=>by
  have e:b=g:=e;subst e
  exact Ym hb h.blk (by decide) rfl)) h.s0 h.s1 h.c0 h.c1 (by decide) (by decide) (by decide)
 obtain⟨W3,hW3⟩: ∃W3,W2.alloc (.cells #[.string ⟨#[73,84,84]⟩] 9)=W3:=⟨_,rfl⟩;have k3:Below W2.heap.size W2 W3:=by rw[←hW3];exact Ze
 have N3:W3.ownsRow W2.heap.size 9 1 (.slice (some ⟨W2.heap.size,0,none⟩) 1 1) 1 (strCells [Ye]):=by rw[←hW3];exact Y2l (Ye9 _) _ _ 1 rfl Z7
 refine Z1o ?_;intro z3 B3 hV3 hV2 cv t0 t1 t2 t3 t4 t5 hitt;have hR:Ydp s p=({s with closed:=true,stat:=up1 s.stat},[⟨38,128,Yah (p.v Ye) s.stat s.cmd,[]⟩]):=rfl;rw[hR];have HM:=hid (make_out s.stat s.cmd h.s0 h.s1 h.c0 h.c1 (p.v Ye) hitt);rw[z2]at N3;unfold pkC at hW1;unfold pkV Y1a at cv ⊢;generalize p.v Ye=X at *;have H2:=hid h2;clear hp hp0 hV hV3 h h2 B1 B2 G1 G2 hE hR B3;go_enter func67,ntmps67
 go_wp2_with fail;refine cv.out.mono ?_;rintro e w4 ⟨rfl,hb4⟩;have N4:=Y2 N3 hb4;have b4:=k3.trans (hb4.mono k3.size);have z4:=hb4.size;have k5:Below w4.heap.size w4 (w4.alloc (.cells #[.int .u64 (X:Int)] 106)):=(Yea _ _).alloc (Ye9 _) _;have N5:=Y2 N4 k5;have V5:(w4.alloc (.cells #[.int .u64 (X:Int)] 106)).ownsRow (w.heap.size+1) 106 1 (.slice (some ⟨w4.heap.size,0,none⟩) 1 1) 1 (Yb [X]):=Y2l Z7 _ _ 1 rfl Z7
 have b5:=b4.trans (k5.mono b4.size);rw[←z2]at N5 V5;have cm:=hid (Y6L 38 128 [] _ _ [Ye] [X] (Yah X s.stat s.cmd) _ H2.out b5 HM.out Z7 Z7 Z7 Z7 Z2t Z2t Zd N5 V5 (.inr Z4u) hV2.1 hV2.2.1);rw[z2]at cm;unfold Y1a at cm;have HK2:=hid K2;clear N3 N4 N5 V5 H2 hV2 b4 b5 k5 k3 cv hb4 K2 b1;go_wp2_with fail;refine cm.out.mono ?_;rintro e w6 ⟨v,rfl,hsl,hK,hF⟩;obtain⟨sa,sc,rfl,-⟩: ∃sa sc,v= .slice sa (Yah X s.stat s.cmd).length sc∧True:=Z14
 have k7:Below w6.heap.size w6 (w6.alloc (.cells #[.int .i64 38,.bool false,.int .i64 128,.slice sa (Yah X s.stat s.cmd).length sc,.slice none 0 0,.string ⟨#[]⟩] 63)):=(Yea _ _).alloc (Ye9 _) _;have HA:=hid (Y5y (op:=38) (flags:=128) (d:= []) hsl);have HF:=hid (hF.below k7);have HK:=hid ((HK2.out.trans hK (fun i hi=> .inl hi)).below k7);clear hsl hK hF k7 cm;go_wp2;go_ret;exact⟨_,rfl,HA.out,HF.out,HK.out⟩
end
end
section
open Go.Proofs.Tryz
open Go Go.RowKit
def Y4f(B:Nat)(w:World)(c:FCf)(us:PL)(sn ss:List UInt8)(lim:Int)(tv gv uv ov:Value):Prop:=
 ∀W,Y1 (fun k=>B≤k) w W→YD W c.ts c.gs us sn ss lim c.own tv gv uv ov
theorem Y4f.kept{B:Nat}{w w':World}{c:FCf}{us:PL}{sn ss:List UInt8}{lim:Int}{tv gv uv ov:Value}(h:Y4f B w c us sn ss lim tv gv uv ov)(K:Y1 (fun k=>B≤k) w w'):Y4f B w' c us sn ss lim tv gv uv ov:=
 fun W hW=>h W (K.trans hW (fun i hi=> .inl hi))
def Y44:PL:= [(Y1s,Y6h)]
theorem Y7o{w:World}{B:Nat}(hB:B≤w.heap.size)(l:PL)(hl:l.length≤1000000):(w.alloc (.cells (Y0 l).toArray 78)).ownsRow B 78 2 (.slice (some ⟨w.heap.size,0,none⟩) l.length l.length) l.length (Y0 l):=
 ⟨by rw[Yr],.inr ⟨w.heap.size,l.length,(Y0 l).toArray,rfl,hB,YeC _ _,Ye9 _,by unfold maxLen;omega,by simp[Yr],by rw[Yfc (by simp[Yr])]⟩⟩
def Y71(l:PL)(w:World)(e:Ending)(w':World):Prop:=(∃v,e= .returned v∧w'.ownsRow w.heap.size 78 2 v l.length (Y0 l))∧Below w.heap.size w w'
theorem ZX{P:Prop}(h:P:=by
 subst hnm
 cases cb with
 | true =>
  simp only[Bool.true_eq_false,if_false,YN]at hz ⊢
  go_enter func116,ntmps116
  go_wp2_with fail
  refine hz.out.mono ?_
  rintro e w2 ⟨⟨v2,rfl,hown⟩,hb2⟩
  go_wp2
  go_ret
  exact⟨⟨_,rfl,hown⟩,hb2⟩
 | false =>
  simp only[Yfw]at hz ⊢
  rw[show errV 36 8= .iface 36 (.int .i64 8)from rfl]at hz
  go_enter func116,ntmps116
  go_wp2_with fail
  refine hz.out.mono ?_
  rintro e w2 ⟨⟨v2,rfl,hown⟩,hb2⟩
  go_wp2
  go_ret
  exact Hrow.out _ hb2):P:=h
section
variable {w:World}{B g gp gn:Nat}{ov rv lv:Value}{sn ss:List UInt8}{lim:Int}{c:FCf}{s:FSt}{us:PL}{ta ga ua oa:Option Addr}{tc gc uc oc:Nat}
theorem YdF(v:List UInt8)(h:Yl 82 215 127 w B g gp gn ov rv lv (.slice ta c.ts.length tc) (.slice ga c.gs.length gc) (.slice ua us.length uc) (.slice oa c.own.length oc) sn ss lim c s)
 (hC:YD w c.ts c.gs us sn ss lim c.own (.slice ta c.ts.length tc) (.slice ga c.gs.length gc) (.slice ua us.length uc) (.slice oa c.own.length oc)) (ht:c.ts.length≤2500) (hgs:c.gs.length≤2500) (hP:PT w):
 Calls prog 116 #[.pointer (some ⟨g,0,none⟩),.string (bs v)] w fun e w'=>Y71 (Y4A c v) w e w':=by
 have hA:(⟨#[65,108,108]⟩:ByteArray)=bs Y1S:=rfl;have hN:(⟨#[]⟩:ByteArray)=bs []:=rfl;have cl:=fun name all=>hid (YbX ta ga ua oa tc gc uc oc c.ts c.gs us sn ss lim c.own name all w hC ht hgs hP)
 unfold Y2I at cl;have t1:=(h.blk.cell 1).trans (rfl:_=some (Value.slice ta c.ts.length tc));have t2:=(h.blk.cell 2).trans (rfl:_=some (Value.slice ga c.gs.length gc));have t3:=(h.blk.cell 3).trans (rfl:_=some (Value.slice ua us.length uc));have t4:=(h.blk.cell 4).trans (rfl:_=some (Value.string (bs sn)));have t5:=(h.blk.cell 5).trans (rfl:_=some (Value.string (bs ss)));have t6:=(h.blk.cell 6).trans (rfl:_=some (Value.int .i64 lim))
 have t7:=(h.blk.cell 7).trans (rfl:_=some (Value.slice oa c.own.length oc));have t8:=(h.blk.cell 8).trans (rfl:_=some (Value.string (bs c.name)));have t9:=(h.blk.cell 9).trans (rfl:_=some (Value.bool c.disc));have hS:Y4A c v=if(v≠Y1S∧c.ts.contains (if v= []then c.name else v)=false)∨(v=Y1S∧c.disc=false)then Y44 else Yy c.gs (if v= []then c.name else v) (decide (v=Y1S)) c.ts:=rfl
 have hrow: ∀w2,Below w.heap.size w w2→Y71 Y44 w (.returned (.slice (some ⟨w2.heap.size,0,none⟩) 1 1)) (w2.alloc (.cells #[.string ⟨#[83,101,110,100,84,97,114,103,101,116,115]⟩,.string ⟨#[82,101,106,101,99,116]⟩] 78)):=fun w2 hb =>
  ⟨⟨_,rfl,Y7o (w:=w2) hb.size Y44 Z16⟩,hb.alloc hb.size _⟩
 have Hrow:=hid hrow;have hgl:=h.blk.lt;clear hrow h hC hP;by_cases ha:v=Y1S
 ·subst ha;have e1:(Y1S == Y1S)=true:=Z16;have e2:(Y1S == ([]:List UInt8))=false:=Z16;have hz:=cl Y1S true;simp only[Bool.true_eq_false,false_and,if_false,YN]at hz
  cases hd:c.disc with
  | true =>
   rw[hS,Yed (by simp[hd])];rw[Yed Z16,Yel (rfl:Y1S=Y1S)];rw[hd]at t9;generalize Yy c.gs Y1S true c.ts=L at *;go_enter func116,ntmps116;go_wp2_with fail;refine hz.out.mono ?_;rintro e w2 ⟨⟨v2,rfl,hown⟩,hb2⟩;have t9:=(hb2.cell (p:=⟨g,9,none⟩) hgl).trans t9;go_wp2;go_ret;exact⟨⟨_,rfl,hown⟩,hb2⟩
  | false =>
   rw[hS,Yei (by simp[hd])];rw[hd]at t9;generalize Yy c.gs Y1S true c.ts=L at *;go_enter func116,ntmps116;go_wp2_with fail;refine hz.out.mono ?_;rintro e w2 ⟨⟨v2,rfl,hown⟩,hb2⟩;have t9:=(hb2.cell (p:=⟨g,9,none⟩) hgl).trans t9;go_wp2;go_ret;exact Hrow.out _ hb2
 ·have e1:(v == Y1S)=false:=by rw[Yen];exact ha
  rw[Yeh ha]at hS;obtain⟨nm,hnm⟩: ∃nm,(if v= []then c.name else v)=nm:=⟨_,rfl⟩;rw[hnm]at hS;have hz:=cl nm false;simp only[true_and]at hz
  have hcase: ∀ (b:Bool),c.ts.contains nm=b→Y4A c v=if b=false then Y44 else Yy c.gs nm false c.ts:=by
   intro b hb;rw[hS]
   cases b with
   | true=>rw[Yed (by
    rintro(⟨_,h⟩ | ⟨h,_⟩)
    ·rw[hb]at h;cases h
    ·exact ha h),Yed (by simp)]
   | false=>rw[Yei (.inl ⟨ha,hb⟩),Yei rfl]
  clear hS cl;generalize hcb:c.ts.contains nm=cb at *;rw[hcase cb rfl];generalize Yy c.gs nm false c.ts=L at *;clear hcase hcb;by_cases hv:v= []
  ·subst hv;have e2:(([]:List UInt8) == ([]:List UInt8))=true:=rfl;rw[Yei rfl]at hnm;exact ZX
  ·have e2:(v == ([]:List UInt8))=false:=by rw[Yen];exact hv
   rw[Yed hv]at hnm;exact ZX
end
end
section
open Go.Proofs.Tryz
open Go Go.RowKit
theorem Y9d{w:World}{B:Nat}{lv:Value}{x:List UInt8}{r:List (List UInt8)}(h:Y2p w B lv (x :: r)):
 ∃b o c na nc,B≤b∧lv= .slice (some ⟨b,o,none⟩) (r.length+1) c∧w.cell? ⟨b,o,none⟩=some (.string (bs x))∧(∃cs,Blk w b 9 cs)∧
  (∀W,(Instr.slice 22 (.slice (some ⟨b,o,none⟩) (r.length+1) c) (some (.int .i64 1)) none none).run prog W= .ok (.slice na r.length nc) W)∧Y2p w B (.slice na r.length nc) r:=by
 obtain⟨a,c,rfl,hl,hc,hx⟩:=h;obtain⟨b,o,cs,hb,rfl,hB,hcs⟩:=hx.resolve_left Z2t;have h0:w.cell? ⟨b,o,none⟩=some (.string (bs x)):=(hB.cell o).trans (hcs 0 x rfl);simp only[YeH]at hl;by_cases h1:c=1
 ·subst h1;have hr:r= []:=by cases r with | nil=>rfl | cons y r=>simp at hl
  subst hr;refine⟨b,o,1,some ⟨b,o,none⟩,0,hb,rfl,h0,⟨cs,hB⟩,fun W=> ?_,⟨_,_,rfl,by simp,by omega,.inl rfl⟩⟩;show(Instr.slice 22 (.slice (some ⟨b,o,none⟩) 1 1) (some (.int .i64 1)) none none).run prog W= .ok (.slice (some ⟨b,o,none⟩) 0 0) W
  have he:prog.elem 22=9:=by simp[Program.elem,underlying22]
  have hsz:(sizeOf 9).run prog W= .ok 1 W:=by kernel_rfl
  rw[run_slice_l W 22 _ 1 1 (by rw[he];exact underlying22) .i64 1 Z7 Z7,he,hsz];simp[Result.andThen,sliced]
 ·have hsl:=fun W=>Y5m (P:=prog) 22 9 underlying22 1 (by intro w;kernel_rfl) b o (r.length+1) c 1 Z7 Z7 W
  refine⟨b,o,c,some ⟨b,o+1 * 1,none⟩,c - 1,hb,rfl,h0,⟨cs,hB⟩,fun W=> ?_,⟨_,_,rfl,by omega,by omega,.inr ⟨b,o+1 * 1,cs,hb,rfl,hB,fun j s hj=> ?_⟩⟩⟩
  ·have:=hsl W;rw[show((1:Nat):Int)=1 from rfl,show r.length+1 - 1=r.length by omega]at this;exact this
  ·have:=hcs (j+1) s (by simpa using hj);rw[show o+1 * 1+j=o+(j+1) by omega];exact this
theorem Z2J{P Q:Prop}(k:Q)(h:Q→P:=by
 have h2:=h.own K2 s.stat s.cmd (.slice na r.length nc) r s.closed G2 (hL2.kept K2 (fun b cs hb e=>by
  have e:b=g:=e
  subst e
  exact Ym hb h.blk (by decide) rfl)) h.s0 h.s1 h.c0 h.c1 (by decide) (by decide) (by decide)
 have y13:=(G2.cell 13).trans (rfl:_=some (Value.slice na r.length nc))
 refine fun z_=>?_
 revert y13;revert h2
 exact z_):P:=h k
theorem Z36{P:Prop}(h:P:=by
 have HF:=hid (hF.below k7)
 have HK:=hid ((HK2.out.trans hK (fun i hi=> .inl hi)).below k7)
 clear hsl hK hF k7 cm
 go_wp2
 go_ret
 exact⟨_,_,rfl,HA.out,HF.out,HK.out⟩):P:=h
theorem Z3Y{P Q:Prop}(k:Q)(h:Q→P:=by
 have k7:Below w6.heap.size w6 (w6.alloc (.cells #[.int .i64 36,.bool false,.int .i64 128,.slice sa (Y5X X 4294967295 s.stat s.cmd).length sc,.slice none 0 0,.string (bs x)] 63)):=(Yea _ _).alloc (Ye9 _) _
 refine fun z_=>?_
 revert k7
 exact z_):P:=h k
theorem Z4a{P Q:Prop}(k:Q)(h:Q→P:=by
 have k7:Below w6.heap.size w6 (w6.alloc (.cells #[.int .i64 36,.bool false,.int .i64 64,.slice sa (Y5X X 1 s.stat s.cmd).length sc,.slice none 0 0,.string (bs x)] 63)):=(Yea _ _).alloc (Ye9 _) _
 refine fun z_=>?_
 revert k7
 exact z_):P:=h k
section
variable {w:World}{B g gp gn:Nat}{ov rv lv ta ga ua oa:Value}{sn ss:List UInt8}{lim:Int}{c:FCf}{s:FSt}
theorem Y7t(p:PK)(v av:Value)(x:List UInt8)(r:List (List UInt8))(hs:s.left=x :: r)(h:Yl 82 215 127 w B g gp gn ov rv lv ta ga ua oa sn ss lim c s)(hp:Y1Y B w p v av)(hE:Y2L p.op p.now p.flags p.vs p.n p.I p.d=0)(hV:Env B w):
 Calls prog 114 #[.pointer (some ⟨g,0,none⟩),pkV p v av] w fun e w'=> ∃lv',Y1R 82 215 127 w B g gp gn ov rv lv' ta ga ua oa sn ss lim c (Y7m s p) e w':=by
 refine Z4y ?_;intro hp0;obtain⟨⟨va,vc,rfl⟩,aa,ac,rfl⟩:=hp0.forms;have hL:=h.lft;rw[hs]at hL;obtain⟨b,o,cc,na,nc,hbB,rfl,hx0,⟨cs,hcs⟩,hsl,hL2⟩:=Y9d hL;have hbg:=Ym hcs h.blk Z16;have hbl:=hcs.lt;refine Zc ?_;intro W1 hW1 b1 B1;have hgl:=h.blk.lt;have hgB:=h.gB;have G1:=h.blk.below b1;have f13:=G1.free 13;have s13:=(G1.cell 13).trans (rfl:_=some (Value.slice (some ⟨b,o,none⟩) (r.length+1) cc))
 have x1:=(b1.cell (p:=⟨b,o,none⟩) hbl).trans hx0;obtain⟨W2,hW2⟩: ∃W2,W1.setCell ⟨g,13,none⟩ (.slice na r.length nc)=W2:=⟨_,rfl⟩;have K2:Y1 (fun k=>k=g) w W2:=by rw[←hW2];exact((Y1.refl _ w).below b1).set _ _ (.inl rfl)
 have G2:Blk W2 g 82 (Y14 (.pointer (some ⟨gn,0,none⟩)) ta ga ua oa sn ss lim c.name c.disc s.stat s.cmd (.pointer (some ⟨gp,0,none⟩)) (.slice na r.length nc) s.closed):=by rw[←hW2];exact G1.set 13 _
 have B2:Blk W2 w.heap.size 63 (pkC p (.slice va p.vs.length vc) (.slice aa p.n ac)):=by rw[←hW2];exact Y1k B1 13 _ Z7
 have z2:W2.heap.size=w.heap.size+1:=by rw[←hW2,←hW1];exact Z3j
 refine Z2J ?_;intro h2 y13;obtain⟨W3,hW3⟩: ∃W3,W2.alloc (.cells #[.string ⟨#[73,84,84]⟩,.string ⟨#[84,84,84]⟩] 9)=W3:=⟨_,rfl⟩;have k3:Below W2.heap.size W2 W3:=by rw[←hW3];exact Ze
 have N3:W3.ownsRow W2.heap.size 9 1 (.slice (some ⟨W2.heap.size,0,none⟩) 2 2) 2 (strCells [Ye,YB]):=by rw[←hW3];exact Y2l (Ye9 _) _ _ 2 rfl Z7
 refine Z1o ?_;intro z3 B3 hV3 hV2 cv t0 t1 t2 t3 t4 t5 hitt;have hR:Y7m s p=({s with left:=r,stat:=up1 s.stat},[⟨36,if r= []then 128 else 64,Y5X (p.v Ye) (if r= []then Y26 else 1) s.stat s.cmd,x⟩]):=by unfold Y7m;rw[hs]
 rw[hR];have HM:=fun fl hf ttt ht=>hid (Yb1 s.stat s.cmd h.s0 h.s1 h.c0 h.c1 fl hf (p.v Ye) ttt hitt ht)
 rw[z2]at N3;unfold pkC at hW1;unfold pkV Y1a at cv ⊢;generalize p.v Ye=X at *;have H2:=hid h2;have hn1:(r.length+1:Nat)=r.length+1:=rfl;clear hp hp0 hV hV3 h h2 B1 B2 G1 G2 hE hR B3 hL hL2 hcs hx0 hs;by_cases h0:r.length=0
 ·have hr:r= []:=by cases r with | nil=>rfl | cons y r=>simp at h0
  subst hr;simp only[Yfw];simp only[YeV]at *;go_enter func114,ntmps114;go_wp2_with fail;refine cv.out.mono ?_;rintro e w4 ⟨rfl,hb4⟩;have N4:=Y2 N3 hb4;have b4:=k3.trans (hb4.mono k3.size);have z4:=hb4.size;have k5:Below w4.heap.size w4 (w4.alloc (.cells #[.int .u64 (X:Int),.int .u64 4294967295] 106)):=(Yea _ _).alloc (Ye9 _) _;have N5:=Y2 N4 k5
  have V5:(w4.alloc (.cells #[.int .u64 (X:Int),.int .u64 4294967295] 106)).ownsRow (w.heap.size+1) 106 1 (.slice (some ⟨w4.heap.size,0,none⟩) 2 2) 2 (Yb [X,4294967295]):=Y2l Z7 _ _ 2 rfl Z7;have b5:=b4.trans (k5.mono b4.size);rw[←z2]at N5 V5;have cm:=hid (Y6L 36 128 x _ _ [Ye,YB] [X,4294967295] (Y5X X 4294967295 s.stat s.cmd) _ H2.out b5 (HM 128 Z7 4294967295 Z7).out Z7 Z7 Z7 Z7 Z2t Z2t Zd N5 V5 (.inr Z4u) hV2.1 hV2.2.1)
  rw[z2]at cm;unfold Y1a at cm;have HK2:=hid K2;clear N3 N4 N5 V5 H2 hV2 b4 b5 k5 k3 cv hb4 K2 b1;go_wp2_with fail;refine cm.out.mono ?_;rintro e w6 ⟨v,rfl,hsl,hK,hF⟩;obtain⟨sa,sc,rfl,-⟩: ∃sa sc,v= .slice sa (Y5X X 4294967295 s.stat s.cmd).length sc∧True:=Z14;refine Z3Y ?_;intro k7;have HA:=hid (Y5y (op:=36) (flags:=128) (d:=x) hsl);exact Z36
 ·have hrn:r≠ []:=fun e=>h0 (by rw[e];rfl)
  rw[Yed hrn,Yed hrn];have hd:0<r.length:=Z7;clear h0;go_enter func114,ntmps114;go_wp2_with fail;refine cv.out.mono ?_;rintro e w4 ⟨rfl,hb4⟩;have N4:=Y2 N3 hb4;have b4:=k3.trans (hb4.mono k3.size);have z4:=hb4.size;have k5:Below w4.heap.size w4 (w4.alloc (.cells #[.int .u64 (X:Int),.int .u64 1] 106)):=(Yea _ _).alloc (Ye9 _) _;have N5:=Y2 N4 k5;have V5:(w4.alloc (.cells #[.int .u64 (X:Int),.int .u64 1] 106)).ownsRow (w.heap.size+1) 106 1 (.slice (some ⟨w4.heap.size,0,none⟩) 2 2) 2 (Yb [X,1]):=Y2l Z7 _ _ 2 rfl Z7
  have b5:=b4.trans (k5.mono b4.size);rw[←z2]at N5 V5;have cm:=hid (Y6L 36 64 x _ _ [Ye,YB] [X,1] (Y5X X 1 s.stat s.cmd) _ H2.out b5 (HM 64 Z7 1 Z7).out Z7 Z7 Z7 Z7 Z2t Z2t Zd N5 V5 (.inr Z4u) hV2.1 hV2.2.1);rw[z2]at cm;unfold Y1a at cm;have HK2:=hid K2;clear N3 N4 N5 V5 H2 hV2 b4 b5 k5 k3 cv hb4 K2 b1;go_wp2_with fail;refine cm.out.mono ?_;rintro e w6 ⟨v,rfl,hsl,hK,hF⟩;obtain⟨sa,sc,rfl,-⟩: ∃sa sc,v= .slice sa (Y5X X 1 s.stat s.cmd).length sc∧True:=Z14
  refine Z4a ?_;intro k7;have HA:=hid (Y5y (op:=36) (flags:=64) (d:=x) hsl);exact Z36
end
end
end Go.Proofs.YtfadikchijkcfaaGreatDoor
