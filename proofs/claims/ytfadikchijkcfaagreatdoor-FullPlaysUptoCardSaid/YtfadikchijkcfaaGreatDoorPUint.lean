/- The document's faults: Good, Bare, Is. -/
import Derived.Test.YtfadikchijkcfaaGreatDoorProg
import Derived.Test.YtfadikchijkcfaaGreatDoorParsePure
import Derived.Laws.Closers25
import Derived.Laws.Closers25b
set_option linter.unusedVariables false
set_option linter.unusedSectionVars false
set_option linter.unusedSimpArgs false
set_option maxRecDepth 100000
set_option maxHeartbeats 8000000
namespace Go.Proofs.YtfadikchijkcfaaGreatDoor
section
open Go.Proofs.Tryz
open Go.RowKit
def YS(k:Nat)(pl:Int):Value:= .agg #[.int .i64 (k:Nat),.int .i64 pl]
theorem Y1O(w:World):
 Calls prog 36 #[] w fun e w'=>e= .returned (.agg #[.int .i64 0,.int .i64 (-1)])∧Below w.heap.size w w':=by
 go_enter func36,ntmps36;go_wp2;exact Yej (v:= .agg #[.int .i64 0,.int .i64 (-1)]) (by simp[results,results36,go_sem]) rfl ⟨rfl,(Yea _ _).alloc (Ye9 _) _⟩
theorem Y27(k:Int)(w:World):
 Calls prog 71 #[.int .i64 k] w fun e w'=>e= .returned (.agg #[.int .i64 k,.int .i64 (-1)])∧Below w.heap.size w w':=by
 go_enter func71,ntmps71;go_wp2;exact Yej (v:= .agg #[.int .i64 k,.int .i64 (-1)]) (by simp[results,results71,go_sem]) rfl ⟨rfl,(Yea _ _).alloc (Ye9 _) _⟩
end
section
open Go.RowKit
end
section
open Go.Proofs.Tryz
open Go.RowKit
theorem Z3L{P:Prop}(h:P:=by
 go_enter func100,ntmps100
 go_wp2
 go_ret
 exact⟨rfl,rfl⟩):P:=h
theorem YK(n lo hi:Int)(w:World)(h0:lo≤n)(h1:n≤hi):
 Calls prog 100 #[.int .i64 n,.int .i64 lo,.int .i64 hi] w fun e w'=>e= .returned (.bool true)∧w=w':=by
 have b1:decide (lo≤n)=true:=by simpa using h0
 have b2:decide (n≤hi)=true:=Z4q;clear h0 h1;exact Z3L
theorem YZ(n lo hi:Int)(w:World)(h0:n<lo∨hi<n):
 Calls prog 100 #[.int .i64 n,.int .i64 lo,.int .i64 hi] w fun e w'=>e= .returned (.bool false)∧w=w':=by
 by_cases h:n<lo
 ·have b1:decide (lo≤n)=false:=Z3o;clear h0 h;exact Z3L
 ·have b1:decide (lo≤n)=true:=Zd;have b2:decide (n≤hi)=false:=Zd;clear h0 h;exact Z3L
theorem ZJ{P Q:Prop}(k:Q)(h:Q→P:=by
 have q0:=(hb1.cell (p:=⟨w.heap.size,0,none⟩) hsz).trans q0
 have q1:=(hb1.cell (p:=⟨w.heap.size,1,none⟩) hsz).trans q1
 have f0:=(hb1.frozen (p:=⟨w.heap.size,0,none⟩) hsz).trans f0
 have f1:=(hb1.frozen (p:=⟨w.heap.size,1,none⟩) hsz).trans f1
 refine fun z_=>?_
 revert f1;revert f0;revert q1;revert q0
 exact z_):P:=h k
theorem Z10{P Q:Prop}(k:Q)(h:Q→P:=by
 have q0:wr.cell? ⟨w.heap.size,0,none⟩=some (.int .i64 0):=by rw[YeJ _ _ _ _ _ _ hblk];rfl
 have q1:wr.cell? ⟨w.heap.size,1,none⟩=some (.int .i64 0):=by rw[YeJ _ _ _ _ _ _ hblk];rfl
 have f0:wr.frozen? ⟨w.heap.size,0,none⟩=false:=Yfr _ _ _ _ _ hblk
 have f1:wr.frozen? ⟨w.heap.size,1,none⟩=false:=Yfr _ _ _ _ _ hblk
 refine fun z_=>?_
 revert f1;revert f0;revert q1;revert q0
 exact z_):P:=h k
theorem Z1H{P:Prop}(h:P:=by
 simp[Value.oneCell']):P:=h
theorem Z1X{P:Prop}(h:P:=by
 rw[Ygq]
 exact Z7):P:=h
theorem Z2k{P:Prop}(h:P:=by
 rw[IntKind.wrap_u64]
 exact Z7):P:=h
theorem Z4v{P:Prop}(h:P:=by
 unfold Y5U
 rw[Yed Z7,Yed Zd]):P:=h
end
section
open Go.Proofs.Tryz
open Go Go.RowKit
def Y3k(l:List (List UInt8)):List Value:=l.map fun x=> .string (bs x)
def TSl(w:World)(v:Value)(l:List (List UInt8)):Prop:=Sl w v 1 l.length (Y3k l)
theorem TSl.below{w w':World}{v:Value}{l:List (List UInt8)}(h:TSl w v l)(hb:Below w.heap.size w w'):TSl w' v l:=Sl.below h (by omega) hb
theorem TSl.open_{w:World}{a:Option Addr}{n c:Nat}{l:List (List UInt8)}(h:TSl w (.slice a n c) l)(h0:0<l.length): ∃b o,a=some ⟨b,o,none⟩∧b<w.heap.size∧ ∀k,k<l.length→w.cell? ⟨b,o+k,none⟩=some (.string (bs (l.getD k []))):=by
 obtain⟨a',c',hv,hl,hc⟩:=h
 cases hv
 obtain⟨b,o,ha,hd⟩:=hc.resolve_left Z7
 have key: ∀k,k<l.length→w.cell? ⟨b,o+k,none⟩=some (.string (bs (l.getD k []))):=fun k hk=>hd k _ (by
  unfold Y3k
  rw[YeR,Yec hk,List.getD,Yec hk];rfl)
 exact⟨b,o,ha,Yeb (key 0 h0),key⟩
def Y2I(ts ps us ow:Value)(sn ss:List UInt8)(lim:Int):Value:= .agg #[ts,ps,us,.string (bs sn),.string (bs ss),.int .i64 lim,ow]
theorem Yb8(l:List (List UInt8))(n:List UInt8)(k:Nat)(hk:k<l.length):(l.take (k+1)).contains n=((l.take k).contains n || l.getD k [] == n):=by
 rw[Yeq hk,Yft,List.getD,Yec hk];simp only[Yf2,YeM,YfJ,YfT]
 congr 1
 rw[Yg3,Yfb,Yfb];exact eq_comm
def RHas(l:List (List UInt8))(n:List UInt8)(W:World)(i:Value)(wr:World):Prop:=
 ∃k:Nat,k≤l.length∧i= .int .i64 (k:Nat)∧Hid ((l.take k).contains n=false)∧wr=W
def RHasR(l:List (List UInt8))(n:List UInt8)(W:World)(b i:Value)(wr:World):Prop:=
 ∃k:Nat,k≤l.length∧i= .int .i64 (k:Nat)∧b= .bool ((l.take k).contains n)∧wr=W
theorem Z3l{P Q:Prop}(k:Q)(h:Q→P:=by
 obtain⟨W1,hW1⟩: ∃W1,w.alloc (.cells #[.slice ta l.length tc,ps,us,.string (bs sn),.string (bs ss),.int .i64 lim,ow] 29)=W1:=⟨_,rfl⟩
 have b1:Below w.heap.size w W1:=by rw[←hW1];exact Ze
 have t0:W1.cell? ⟨w.heap.size,0,none⟩=some (.slice ta l.length tc):=Z1J
 have h1:=h.below b1
 refine fun z_=>?_
 revert h1;revert t0;revert b1;revert hW1;revert W1
 exact z_):P:=h k
section
variable (ta:Option Addr)(tc:Nat)(ps us ow:Value)(sn ss:List UInt8)(lim:Int)(l:List (List UInt8))(n:List UInt8)(w:World)(h:TSl w (.slice ta l.length tc) l)(hn:l.length≤1048576)
include h hn
theorem has_any:Calls prog 172 #[Y2I (.slice ta l.length tc) ps us ow sn ss lim,.string (bs n)] w fun e w'=>e= .returned (.bool (l.contains n))∧Below w.heap.size w w':=by
 refine Z3l ?_;intro W1 hW1 b1 t0 h1;clear h;unfold Y2I;go_enter func172,ntmps172;go_wp2;go_loopw [10] (fun i wr=>RHas l n W1 i wr) (fun i _=>l.length - (intOf i).toNat)
 case atStart=>exact⟨0,by omega,rfl,hid rfl,rfl⟩
 case round =>
  obtain⟨k,hk,rfl,HK,rfl⟩:=hrel;by_cases hlt:k<l.length
  ·obtain⟨b,o,rfl,hbl,hcell⟩:=h1.open_ Z7;have g0:=hcell k hlt;have HT:=hid (Yb8 l n k hlt);by_cases he:l.getD k []=n
   ·have hbe:(l.getD k [] == n)=true:=Yfb.2 he
    have HE:=hid (show l.contains n=true by
     rw[Yfj,←he,List.getD,Yec hlt]
     exact YfD hlt)
    clear hcell HT he;generalize l.getD k []=x at *;go_wp2;go_ret;exact⟨by rw[HE.out];rfl,b1⟩
   ·have hbe:(l.getD k [] == n)=false:=Yen.2 he;have HS:=hid (show(l.take (k+1)).contains n=false by rw[HT.out,HK.out,hbe];rfl);clear hcell HT he;generalize l.getD k []=x at *;go_wp2;refine⟨⟨k+1,by omega,by go_num,hid HS.out,rfl⟩,by simp[intOf];omega⟩
  ·obtain rfl:k=l.length:=Z7;have hke:=HK.out;rw[Yex]at hke;have HE:=hid hke;clear hke;go_wp2;go_ret;exact⟨by rw[HE.out];rfl,b1⟩
theorem rhas_any:Calls prog 99 #[Y2I (.slice ta l.length tc) ps us ow sn ss lim,.string (bs n)] w fun e w'=>e= .returned (.bool (l.contains n))∧Below w.heap.size w w':=by
 refine Z3l ?_;intro W1 hW1 b1 t0 h1;clear h;unfold Y2I;go_enter func99,ntmps99;go_wp2;go_loopw [5,10] (fun b i wr=>RHasR l n W1 b i wr) (fun _ i _=>l.length - (intOf i).toNat)
 case atStart=>exact Z4X
 case round =>
  obtain⟨k,hk,rfl,rfl,rfl⟩:=hrel;by_cases hlt:k<l.length
  ·obtain⟨b,o,rfl,hbl,hcell⟩:=h1.open_ Z7;have g0:=hcell k hlt;have HT:=hid (Yb8 l n k hlt);clear hcell
   cases hc:(l.take k).contains n with
   | true =>
    rw[hc]at HT;go_wp2;refine⟨⟨k+1,by omega,by go_num,by rw[HT.out];rfl,rfl⟩,by simp[intOf];omega⟩
   | false =>
    rw[hc]at HT;generalize l.getD k []=x at *;go_wp2;refine⟨⟨k+1,by omega,by go_num,by rw[HT.out];rfl,rfl⟩,by simp[intOf];omega⟩
  ·obtain rfl:k=l.length:=Z7;rw[Yex];obtain⟨r,hr⟩: ∃r,l.contains n=r:=⟨_,rfl⟩;have HR:=hid hr;rw[hr];clear hr h1;go_wp2;go_ret;exact⟨by rw[HR.out];rfl,b1⟩
end
end
section
open Go.Proofs.Tryz
open Go Go.RowKit
theorem cutTo(L:List UInt8)(k:Nat)(hk:k≤L.length)(hL:L.length≤1000000)(w:World):
 (Instr.slice 9 (.string (bs L)) none (some (.int .i64 (k:Int))) none).run prog w= .ok (.string (bs (L.take k))) w:=by
 simp[go_sem];intro h;exact Z7
theorem cutFrom(L:List UInt8)(k:Nat)(hk:k≤L.length)(hL:L.length≤1000000)(w:World):
 (Instr.slice 9 (.string (bs L)) (some (.int .i64 (k:Int))) none none).run prog w= .ok (.string (bs (L.drop k))) w:=by
 simp[go_sem];intro h;exact Z7
end
section
open Go.Proofs.Tryz
open Go Go.RowKit
theorem Y6D(c:UInt8)(w:World):Calls prog 250 #[.int .u8 (c.toNat:Int)] w fun e w'=>e= .returned (.int .u8 (Yb2 c:Nat))∧w=w':=by
 have h:=low_u8 c;go_enter func250,ntmps250;go_wp2;go_ret;exact⟨rfl,rfl⟩
theorem lower_95(w:World):Calls prog 250 #[.int .u8 95] w fun e w'=>e= .returned (.int .u8 127)∧w=w':=Y6D 95 w
def Y7E(R:Nat×Nat)(w:World)(e:Ending)(w':World):Prop:=
 e= .returned (.tuple #[.int .u64 (R.1:Nat),errV 360 R.2])∧Below w.heap.size w w'
def PuR(base max:Nat)(l:List UInt8)(W1:World)(vu vn vi:Value)(wr:World):Prop:=
 ∃ (k n:Nat) (a:Int),vu= .bool false∧vn= .int .u64 a∧vi= .int .i64 (k:Nat)∧k≤l.length∧wr=W1∧Hid (a=(n:Int)∧n≤max∧puG base max l 0=puG base max (l.drop k) n)
theorem Z1v{P:Prop}(h:P:=by
 ·exact Z1B):P:=h
theorem Z1B{P:Prop}(h:P:=by
 rw[Yed hlet]at hdg
 rw[hdg,Yei Z7]at hst
 have HS:=hid hst
 clear hst hn ha HB hdg hc
 have hlet':(b:Int) < 97∨122< (b:Int):=Z7
 clear hlet
 rcases hdig' with hdig' | hdig'<;>rcases hlet' with hlet' | hlet'
 all_goals
  go_wp2_with (go_at_call 250;refine(clow _).out.mono ?_;rintro e w' ⟨rfl,rfl⟩)
  go_ret2
  rw[HS.out]
  exact⟨rfl,HBW.out⟩):P:=h
theorem Z1K{P:Prop}(h:P:=by
 have hdv:Y1E c=255:=by rw[show c=95 from UInt8.toNat_inj.1 h95];exact Z16
 rw[hdv,Yei Z7]at hst
 have HS:=hid hst
 rw[h95]at hcell
 have c95:=fun w=>hid (lower_95 w)
 clear hst hn ha HB hc hdv h95 clow hc256
 go_wp2_with (go_at_call 250;refine(c95 _).out.mono ?_;rintro e w' ⟨rfl,rfl⟩)
 go_ret2
 rw[HS.out]
 exact⟨rfl,HBW.out⟩):P:=h
theorem Z1O{P:Prop}(h:P:=by
 rcases hdig' with hdig' | hdig'
 all_goals
  go_wp2_with (go_at_call 250;refine(clow _).out.mono ?_;rintro e w' ⟨rfl,rfl⟩)
  go_ret2
  rw[HS.out]
  exact⟨rfl,HBW.out⟩):P:=h
theorem Z2m{P Q:Prop}(k:Q)(h:Q→P:=by
 have hB: ∀ (j:Nat) (c:UInt8),l[j]?=some c→W1.cell? ⟨w.heap.size,j,none⟩=some (.int .u8 c.toNat):=fun j c hj=>by
  obtain⟨h1,h2⟩:=Yek.1 hj
  subst h2
  exact(hcell j (by rw[YJ];exact h1)).trans rfl
 have HBW:=hid hbw
 have HB:=hid hB
 clear hB
 have hlen:=Nat.pos_of_ne_zero (fun h=>hemp (YeL.1 h))
 refine fun z_=>?_
 revert hlen;revert HB;revert HBW
 exact z_):P:=h k
theorem Z2I{P:Prop}(h:P:=by
 ·exact Z2U):P:=h
theorem Z2U{P:Prop}(h:P:=by
 obtain rfl:k=l.length:=Z7
 rw[puG_end _ _ _ _ _ (Ye9 _)]at hst
 have HS:=hid hst
 subst ha
 clear hst hn HB
 exact Z4N):P:=h
theorem Z3I{P:Prop}(h:P:=by
 first | rfl | (congr 1;omega)):P:=h
theorem Z4N{P:Prop}(h:P:=by
 go_wp2
 go_ret2
 rw[HS.out]
 exact⟨rfl,HBW.out⟩):P:=h
theorem Z4U{P:Prop}(h:P:=by
 subst hemp
 rw[Yei rfl]
 go_enter func224,ntmps224
 go_wp2
 go_ret2
 exact Z2D):P:=h
theorem pu_10_40(l:List UInt8)(w:World)(hl:l.length≤9223372036854775806):
 Calls prog 224 #[.string (bs l),.int .i64 10,.int .i64 40] w fun e w'=>Y7E (puS 10 1099511627775 l) w e w':=by
 unfold Y7E puS;by_cases hemp:l= []
 ·exact Z4U
 rw[Yed hemp]
 have hemp':l.isEmpty=false:=by
  cases l with
  | nil=>exact absurd rfl hemp
  | cons a l=>rfl
 refine Z28 ?_;intro cv;obtain⟨cp,W1,hcv,hcp,hcell,hbw,hsz1,_⟩:=cv w;rw[YJ]at hcv;refine Z2m ?_;clear cv hbw hcell hemp;intro HBW HB hlen;go_enter func224,ntmps224;go_wp2;go_loopw [12,13,101] (fun vu vn vi wr=>PuR 10 1099511627775 l W1 vu vn vi wr) (fun _ _ vi _=>l.length - (intOf vi).toNat)
 case atStart=>exact⟨0,0,0,rfl,rfl,rfl,by omega,rfl,hid ⟨rfl,by omega,rfl⟩⟩
 case round =>
  obtain⟨k,n,a,rfl,rfl,rfl,hk,rfl,hh⟩:=hrel;obtain⟨ha,hn,hst⟩:=hh.out;clear hh;have a0:0≤a:=Z7;have a1:a≤1099511627775:=Z7;by_cases hkn:k<l.length
  ·obtain⟨c,hc⟩: ∃c,l[k]?=some c:=⟨l[k],Yec hkn⟩;have hcell:=HB.out k c hc;rw[YaU _ _ l k n c hc]at hst;have hc256:c.toNat<256:=c.toNat_lt;have clow:=fun w=>hid (Y6D c w)
   by_cases h95:c.toNat=95
   ·exact Z1K
   have h95':((c.toNat:Int) == 95)=false:=Z1r;by_cases hdig:48≤c.toNat∧c.toNat≤57
   ·obtain⟨hd0,hd1⟩:=hdig;have hdv:Y1E c=c.toNat - 48:=by unfold Y1E;rw[Yei ⟨hd0,hd1⟩]
    rw[hdv,Yed Z7]at hst;clear hdv clow hc;by_cases hov:1099511627775<n * 10+(c.toNat - 48)
    ·rw[Yei hov]at hst;have iov:1099511627775<a * 10+((c.toNat:Int) - 48):=Z7;have HS:=hid hst;clear hst hov hn ha HB;exact Z4N
    ·rw[Yed hov]at hst;have iov:a * 10+((c.toNat:Int) - 48)≤1099511627775:=Z7;have HN:Hid (a * 10+((c.toNat:Int) - 48)=((n * 10+(c.toNat - 48):Nat):Int)∧n * 10+(c.toNat - 48)≤1099511627775∧puG 10 1099511627775 l 0=puG 10 1099511627775 (l.drop (k+1)) (n * 10+(c.toNat - 48))):=hid ⟨by omega,by omega,hst⟩;clear hst hov hn ha HB;go_wp2;refine⟨⟨k+1,n * 10+(c.toNat - 48),a * 10+((c.toNat:Int) - 48),rfl,Z3I,Z3I,by omega,rfl,HN⟩,by simp[intOf];omega⟩
   ·have hdg:Y1E c=if 97≤Yb2 c∧Yb2 c≤122 then Yb2 c - 87 else 255:=by unfold Y1E;rw[Yed hdig]
    have hw256:=low_lt c;obtain⟨b,hb⟩: ∃b,Yb2 c=b:=⟨_,rfl⟩;rw[hb]at hdg hw256 clow;have hdig':(c.toNat:Int) < 48∨57< (c.toNat:Int):=Z7;clear hb;by_cases hlet:97≤b∧b≤122
    ·obtain⟨hl0,hl1⟩:=hlet;rw[Yei ⟨hl0,hl1⟩]at hdg;rw[hdg]at hst;clear hdg hc;rw[Yei Z7]at hst;have HS:=hid hst;clear hst hn ha HB;exact Z1O
    exact Z1v
  exact Z2I
theorem pu_16_40(l:List UInt8)(w:World)(hl:l.length≤9223372036854775806):
 Calls prog 224 #[.string (bs l),.int .i64 16,.int .i64 40] w fun e w'=>Y7E (puS 16 1099511627775 l) w e w':=by
 unfold Y7E puS;by_cases hemp:l= []
 ·exact Z4U
 rw[Yed hemp]
 have hemp':l.isEmpty=false:=by
  cases l with
  | nil=>exact absurd rfl hemp
  | cons a l=>rfl
 refine Z28 ?_;intro cv;obtain⟨cp,W1,hcv,hcp,hcell,hbw,hsz1,_⟩:=cv w;rw[YJ]at hcv;refine Z2m ?_;clear cv hbw hcell hemp;intro HBW HB hlen;go_enter func224,ntmps224;go_wp2;go_loopw [12,13,101] (fun vu vn vi wr=>PuR 16 1099511627775 l W1 vu vn vi wr) (fun _ _ vi _=>l.length - (intOf vi).toNat)
 case atStart=>exact⟨0,0,0,rfl,rfl,rfl,by omega,rfl,hid ⟨rfl,by omega,rfl⟩⟩
 case round =>
  obtain⟨k,n,a,rfl,rfl,rfl,hk,rfl,hh⟩:=hrel;obtain⟨ha,hn,hst⟩:=hh.out;clear hh;have a0:0≤a:=Z7;have a1:a≤1099511627775:=Z7;by_cases hkn:k<l.length
  ·obtain⟨c,hc⟩: ∃c,l[k]?=some c:=⟨l[k],Yec hkn⟩;have hcell:=HB.out k c hc;rw[YaU _ _ l k n c hc]at hst;have hc256:c.toNat<256:=c.toNat_lt;have clow:=fun w=>hid (Y6D c w)
   by_cases h95:c.toNat=95
   ·exact Z1K
   have h95':((c.toNat:Int) == 95)=false:=Z1r;by_cases hdig:48≤c.toNat∧c.toNat≤57
   ·obtain⟨hd0,hd1⟩:=hdig;have hdv:Y1E c=c.toNat - 48:=by unfold Y1E;rw[Yei ⟨hd0,hd1⟩]
    rw[hdv,Yed Z7]at hst;clear hdv clow hc;by_cases hov:1099511627775<n * 16+(c.toNat - 48)
    ·rw[Yei hov]at hst;have iov:1099511627775<a * 16+((c.toNat:Int) - 48):=Z7;have HS:=hid hst;clear hst hov hn ha HB;exact Z4N
    ·rw[Yed hov]at hst;have iov:a * 16+((c.toNat:Int) - 48)≤1099511627775:=Z7;have HN:Hid (a * 16+((c.toNat:Int) - 48)=((n * 16+(c.toNat - 48):Nat):Int)∧n * 16+(c.toNat - 48)≤1099511627775∧puG 16 1099511627775 l 0=puG 16 1099511627775 (l.drop (k+1)) (n * 16+(c.toNat - 48))):=hid ⟨by omega,by omega,hst⟩;clear hst hov hn ha HB;go_wp2;refine⟨⟨k+1,n * 16+(c.toNat - 48),a * 16+((c.toNat:Int) - 48),rfl,Z3I,Z3I,by omega,rfl,HN⟩,by simp[intOf];omega⟩
   ·have hdg:Y1E c=if 97≤Yb2 c∧Yb2 c≤122 then Yb2 c - 87 else 255:=by unfold Y1E;rw[Yed hdig]
    have hw256:=low_lt c;obtain⟨b,hb⟩: ∃b,Yb2 c=b:=⟨_,rfl⟩;rw[hb]at hdg hw256 clow;have hdig':(c.toNat:Int) < 48∨57< (c.toNat:Int):=Z7;clear hb;by_cases hlet:97≤b∧b≤122
    ·obtain⟨hl0,hl1⟩:=hlet;rw[Yei ⟨hl0,hl1⟩]at hdg;rw[hdg]at hst;clear hdg hc;by_cases h16:16≤b - 87
     ·rw[Yei h16]at hst;have HS:=hid hst;clear hst hn ha HB;exact Z1O
     ·rw[Yed h16]at hst;by_cases hov:1099511627775<n * 16+(b - 87)
      ·rw[Yei hov]at hst;have iov:1099511627775<a * 16+((b:Int) - 97+10):=Z7;have HS:=hid hst;clear hst hov hn ha HB;exact Z1O
      ·rw[Yed hov]at hst;have iov:a * 16+((b:Int) - 97+10)≤1099511627775:=Z7;have HN:Hid (a * 16+((b:Int) - 97+10)=((n * 16+(b - 87):Nat):Int)∧n * 16+(b - 87)≤1099511627775∧puG 16 1099511627775 l 0=puG 16 1099511627775 (l.drop (k+1)) (n * 16+(b - 87))):=hid ⟨by omega,by omega,hst⟩;clear hst hov hn ha HB;rcases hdig' with hdig' | hdig'
       all_goals
        go_wp2_with (go_at_call 250;refine(clow _).out.mono ?_;rintro e w' ⟨rfl,rfl⟩);refine⟨⟨k+1,n * 16+(b - 87),a * 16+((b:Int) - 97+10),rfl,Z3I,Z3I,by omega,rfl,HN⟩,by simp[intOf];omega⟩
    exact Z1v
  exact Z2I
end
end Go.Proofs.YtfadikchijkcfaaGreatDoor
