/- The number that a value is: by the document. -/
import Derived.Test.YtfadikchijkcfaaGreatDoorParsePure
import Derived.Test.YtfadikchijkcfaaGreatDoorProg
import Derived.Test.YtfadikchijkcfaaGreatDoorListPure
import Derived.Test.YtfadikchijkcfaaGreatDoorCells2
import Derived.Test.YtfadikchijkcfaaGreatDoorPUint
import Derived.Test.YtfadikchijkcfaaGreatDoorShelfL
import Derived.Test.YtfadikchijkcfaaGreatDoorCut2
import Derived.Test.YtfadikchijkcfaaGreatDoorThick
import Derived.Maps.AppendAt
import Derived.Test.YtfadikchijkcfaaGreatDoorPairFind
set_option linter.unusedVariables false
set_option linter.unusedSectionVars false
set_option linter.unusedSimpArgs false
set_option maxRecDepth 100000
set_option maxHeartbeats 16000000
namespace Go.Proofs.YtfadikchijkcfaaGreatDoor
section
open Go.Proofs.Tryz
open Go Go.RowKit
theorem hasP_any(l p:List UInt8)(w:World):Calls prog 144 #[.string (bs l),.string (bs p)] w fun e w'=>e= .returned (.bool (p.isPrefixOf l))∧w=w':=by
 refine(Tryz.strings_HasPrefix (bs l) (bs p) w).mono ?_;rintro e w' ⟨rfl,rfl⟩;refine⟨?_,rfl⟩;simp[bs,Lib.hasPrefix]
theorem low1_any(c:UInt8)(w:World)(h:c.toNat<128):Calls prog 132 #[.string (bs [c])] w fun e w'=>e= .returned (.string (bs [lowA c]))∧Below w.heap.size w w':=by
 refine(Tryz.strings_ToLower_ascii (bs [c]) w (by rw[YJ];exact Z2t) ?_).mono ?_
 ·intro j b hb;have:b∈ [c]:=Yer hb;rw[Yfs.1 this];exact h
 ·rintro e w' ⟨rfl,hb⟩;refine⟨?_,hb⟩;have:Lib.lowerB c=lowA c:=Y8R (fun c=>Lib.lowerB c=lowA c) (by decide +kernel) c;simp[bs,Lib.toLowerA,this]
def RAll(p:UInt8→Bool)(l:List UInt8)(W1:World)(i:Value)(wr:World):Prop:=
 ∃k:Nat,k≤l.length∧i= .int .i64 (k:Nat)∧l.all p=(l.drop k).all p∧Below W1.heap.size W1 wr
theorem Ye2(l of:List UInt8)(p:UInt8→Bool)(hof: ∀c,decide (Lib.indexByte of c<0)= !p c)(hl:l.length≤1000000)(hol:of.length≤100)(w:World):
 Calls prog 145 #[.string (bs l),.string (bs of)] w fun e w'=>e= .returned (.bool (l.all p && !(l == [])))∧Below w.heap.size w w':=by
 refine Z28 ?_;intro cv;obtain⟨cp,w1,hrun,hcp,hcell,hb1,hsz1,_⟩:=cv w;rw[YJ]at hrun;clear cv
 have HC:=hid (show ∀ (j:Nat) (c:UInt8),l[j]?=some c→w1.cell? ⟨w.heap.size,j,none⟩=some (.int .u8 c.toNat)from fun j c hj=>by
  obtain⟨h1,h2⟩:=Yek.1 hj;subst h2
  exact(hcell j (by rw[YJ];exact h1)).trans rfl)
 have ci:=fun c w=>hid (Y1y of c w Z7)
 have HOF:=hid hof;clear hcell hof hcp;go_enter func145,ntmps145;go_wp2;go_loopw [10] (fun i wr=>RAll p l w1 i wr) (fun i _=>l.length - (intOf i).toNat)
 case atStart=>exact Z1g
 case round =>
  obtain⟨k,hk,rfl,hall,hb⟩:=hrel;have bb:=hb1.trans (hb.mono hb1.size);by_cases hlt:k<l.length
  ·obtain⟨c,hc⟩: ∃c,l[k]?=some c:=⟨l[k],Yec hlt⟩;have hc1:=(hb.cell (p:=⟨w.heap.size,k,none⟩) Zd).trans (HC.out k c hc);obtain⟨h1,h2⟩:=Yek.1 hc;rw[Yev h1,h2,List.all_cons]at hall;have hp:=HOF.out c;have ci:=ci c;generalize Lib.indexByte of c=x at *
   cases hq:p c with
   | false =>
    rw[hq,Bool.false_and]at hall;rw[hq]at hp;have hx:decide (x<0)=true:=hp;have HA:=hid hall;clear hall hp hc h1 h2 hq;go_wp2_with (go_at_call 133;refine(ci _).out.mono ?_;rintro e w2 ⟨rfl,rfl⟩);go_ret;rw[HA.out,Bool.false_and];exact⟨rfl,bb⟩
   | true =>
    rw[hq,Bool.true_and]at hall;rw[hq]at hp;have hx:decide (x<0)=false:=hp;have HA:=hid hall;clear hall hp hc h1 h2 hq;go_wp2_with (go_at_call 133;refine(ci _).out.mono ?_;rintro e w2 ⟨rfl,rfl⟩);go_roundw
    case rel=>exact⟨k+1,by omega,by go_num,HA.out,hb⟩
    case measure=>exact Zw
  ·obtain rfl:k=l.length:=Z7;have ha:l.all p=true:=by rw[hall,YeX];rfl
   have HA:=hid ha;clear ha hall
   cases l with
   | nil =>
    go_wp2;go_ret;rw[HA.out];exact⟨rfl,bb⟩
   | cons x l =>
    have hem:(x :: l).isEmpty=false:=rfl;go_wp2;go_ret;rw[HA.out];exact⟨rfl,bb⟩
def RNum(base:Nat)(t:List UInt8)(W1:World)(n i:Value)(wr:World):Prop:=
 ∃ (k m:Nat) (a:Int),i= .int .i64 (k:Nat)∧n= .int .i64 a∧k≤t.length∧Hid (a=(m:Int)∧m<1099511627776∧Y9a base t 0=Y9a base (t.drop k) m)∧Below W1.heap.size W1 wr
def numI(o:Option Nat):Int:=match o with | none=> -1 | some n=>n
theorem Y4Y(l:List UInt8): [48,120].isPrefixOf l=decide (l.take 2= [48,120]):=by
 match l with
 | []=>rfl
 | [a]=>simp[List.isPrefixOf]
 | a :: b :: l =>
  simp only[List.isPrefixOf,Bool.and_true,YfV,List.take_zero];by_cases h1:a=48
  ·by_cases h2:b=120
   ·subst h1 h2;rfl
   ·have:(120 == b)=false:=Yen.2 (fun e=>h2 e.symm);rw[this,Ygf];exact(Yeh (by simp[h2])).symm
  ·have:(48 == a)=false:=Yen.2 (fun e=>h1 e.symm);rw[this,Bool.false_and];exact(Yeh (by simp[h1])).symm
theorem Z3w{P:Prop}(h:P:=by
 exact⟨0,0,0,rfl,rfl,by omega,hid ⟨rfl,by omega,rfl⟩,Yea _ _⟩):P:=h
theorem Z4e{P:Prop}(h:P:=by
 exact⟨k+1,m * 10+Y1E c,a * 10+(Y1E c:Int),by go_num,rfl,by omega,HN,(hb.alloc hB _).trans (hb5.mono Zd)⟩):P:=h
theorem Y42(l:List UInt8)(w:World)(hl:l.length≤1000000):
 Calls prog 92 #[.string (bs l)] w fun e w'=>e= .returned (.int .i64 (numI (Y7p l)))∧Below w.heap.size w w':=by
 have ch:=fun w=>hid (hasP_any l [48,120] w)
 have h22:(⟨#[48,120]⟩:ByteArray)=bs [48,120]:=rfl;have hhx:(⟨#[48,49,50,51,52,53,54,55,56,57,97,98,99,100,101,102,65,66,67,68,69,70]⟩:ByteArray)=bs Y5x:=rfl;have hlw:(⟨#[48,49,50,51,52,53,54,55,56,57,97,98,99,100,101,102]⟩:ByteArray)=bs YbW:=rfl;have hll:Y5x.length=22:=rfl;have hl16:YbW.length=16:=rfl;have ht1:Y5x.take 22=Y5x:=rfl;have ht2:Y5x.take 10=Ycl:=rfl;have cl:=fun c h w=>hid (low1_any c w h)
 have CI:=hid (fun c w=>Y1y YbW c w Z16);have bb0:=Yea w.heap.size w
 cases hp: [48,120].isPrefixOf l
 case false =>
  have hnl:Y7p l=if l≠ [48]∧l[0]?=some 48 then none else Y51 10 l:=by
   unfold Y7p;rw[Yed (YfQ ((Y4Y l).symm.trans hp))]
  rw[hp]at ch;rw[hnl];have ca:=fun w=>hid (Ye2 l Ycl (fun c=>decide (Y1E c<10)) YdO hl Z16 w)
  have hsl: ∀W,(Instr.slice 9 (.string (bs Y5x)) none (some (.int .i64 10)) none).run prog W= .ok (.string (bs Ycl)) W:=fun W=>by
   have:=cutTo Y5x 10 Z16 Z16 W;rw[ht2]at this;exact this
  clear hnl hp
  cases hq:(l.all (fun c=>decide (Y1E c<10)) && !(l == []))with
  | false =>
   have hnb:Y51 10 l=none:=by
    rcases Bool.and_eq_false_iff.1 hq with h | h
    ·exact Y89 10 l h
    ·have:l= []:=Z3o;rw[this];rfl
   rw[hq]at ca;rw[hnb];have HNI:numI (if l≠ [48]∧l[0]?=some 48 then none else none)= -1:=by split<;>rfl
   rw[HNI];clear hq hnb HNI;go_enter func92,ntmps92;rw[h22];go_wp2_with fail;refine(ch _).out.mono ?_;rintro e w2 ⟨rfl,rfl⟩;go_wp2_with fail;refine(ca _).out.mono ?_;rintro e w3 ⟨rfl,hb3⟩;go_wp2;go_ret;exact⟨rfl,hb3⟩
  | true =>
   obtain⟨hqa,hqn⟩:=Bool.and_eq_true_iff.1 hq;have hne:l≠ []:=by rintro rfl;cases hqn
   have HQ:=hid hqa;rw[hq]at ca;have h48:(⟨#[48]⟩:ByteArray)=bs [48]:=rfl;have hlen:=Ygi.2 hne;obtain⟨x,hx⟩: ∃x,l[0]?=some x:=⟨l[0],Yec hlen⟩;obtain⟨hx1,hx2⟩:=Yek.1 hx;have HND:=hid (Y6A 10 l hqa hne);by_cases hl48:l= [48]
   ·have HNL:=hid (show(if l≠ [48]∧l[0]?=some 48 then none else Y51 10 l)=Y9a 10 l 0 by rw[Yed (by simp[hl48]),HND.out]);have hbe:(l == [48])=true:=by rw[hl48];rfl
    clear hq hqa hqn hne HND hx hx1 hx2;rw[HNL.out];clear hl48;go_enter func92,ntmps92;rw[h22];have cv:=fun w=>Y8s (P:=prog) 9 219 5 underlying9 underlying219 underlying5 (bs l) w
    have cv1:=YdT (P:=prog) 219 9 5 5 underlying219 underlying5 underlying9;go_wp2_with fail;refine(ch _).out.mono ?_;rintro e w2 ⟨rfl,rfl⟩;go_wp2_with fail;refine(ca _).out.mono ?_;rintro e w3 ⟨rfl,hb3⟩;obtain⟨cp,w4,hrun,hcp,hcell,hb4,hsz4,_⟩:=cv w3;rw[YJ]at hrun;go_wp2
    have HC:=hid (show ∀ (j:Nat) (c:UInt8),l[j]?=some c→w4.cell? ⟨w3.heap.size,j,none⟩=some (.int .u8 c.toNat)from fun j c hj=>by
     obtain⟨h1,h2⟩:=Yek.1 hj;subst h2
     exact(hcell j (by rw[YJ];exact h1)).trans rfl)
    have hb4':=hb3.trans (hb4.mono hb3.size);clear hcell hcp cv ch ca;go_loopw [4,36] (fun n i wr=>RNum 10 l w4 n i wr) (fun _ i _=>l.length - (intOf i).toNat)
    case atStart=>exact Z3w
    case round =>
     obtain⟨k,m,a,rfl,rfl,hk,hh,hb⟩:=hrel;obtain⟨ha,hm,hst⟩:=hh.out;clear hh;have hB:=hb.size;have bb:=hb4'.trans (hb.mono hb4'.size);by_cases hlt:k<l.length
     ·obtain⟨c,hc⟩: ∃c,l[k]?=some c:=⟨l[k],Yec hlt⟩;have hc1:=(hb.cell (p:=⟨w3.heap.size,k,none⟩) Zd).trans (HC.out k c hc);obtain⟨h1,h2⟩:=Yek.1 hc;have hdg:Y1E c<10:=YeE (Yew.1 HQ.out c (Yer hc));obtain⟨hix,hc128⟩:=Y53 c Z7;rw[Yev h1,h2,Y9a]at hst;have ci:=fun w=>hid (CI.out (lowA c) w)
      rw[hix]at ci;have clo:=fun w=>hid (cl c hc128 w)
      have cv2:=fun w=>hid (cv1 w (c.toNat:Int))
      have cv3: ∀w:World,(convert 219 9 (.slice (some ⟨w.heap.size,0,none⟩) 1 1)).run prog (w.alloc (.cells #[.int .u8 (c.toNat:Int)] 5))= .ok (.string (bs [c])) (w.alloc (.cells #[.int .u8 (c.toNat:Int)] 5)):=fun w=>by
       rw[(cv2 w).out,Y3o]
      clear hix hc h1 h2 cv2 cv1;by_cases hov:1099511627776≤m * 10+Y1E c
      ·rw[Yei hov]at hst;have HS:=hid hst;have hov':1099511627776≤a * 10+(Y1E c:Int):=Z7;have a0:0≤a:=Z7;have a1:a≤1099511627776:=Z7;clear hst hov hm ha;go_wp2_with fail;refine(clo _).out.mono ?_;rintro e w5 ⟨rfl,hb5⟩;go_wp2_with fail;refine(ci _).out.mono ?_;rintro e w6 ⟨rfl,rfl⟩;go_wp2;go_ret;rw[HS.out];exact⟨rfl,(bb.alloc bb.size _).trans (hb5.mono (by have:=bb.size;exact Zd))⟩
      ·rw[Yed hov]at hst;have HN:Hid (a * 10+(Y1E c:Int)=((m * 10+Y1E c:Nat):Int)∧m * 10+Y1E c<1099511627776∧Y9a 10 l 0=Y9a 10 (l.drop (k+1)) (m * 10+Y1E c)):=hid ⟨by omega,by omega,hst⟩;have hov':a * 10+(Y1E c:Int) < 1099511627776:=Z7;have a0:0≤a:=Z7;have a1:a≤1099511627776:=Z7;clear hst hov hm ha;go_wp2_with fail;refine(clo _).out.mono ?_;rintro e w5 ⟨rfl,hb5⟩;go_wp2_with fail;refine(ci _).out.mono ?_
       rintro e w6 ⟨rfl,rfl⟩;go_wp2;go_roundw
       case rel=>exact Z4e
       case measure=>exact Zw
     ·obtain rfl:k=l.length:=Z7;rw[YeX]at hst;have HS:=hid (hst.trans rfl);clear hst hb HC;go_wp2;go_ret;rw[HS.out];exact⟨by rw[ha];rfl,bb⟩
   ·by_cases hx48:x=48
    ·have HNL:=hid (show(if l≠ [48]∧l[0]?=some 48 then none else Y51 10 l)=none by rw[Yei ⟨hl48,by rw[hx,hx48]⟩]);have hxi:(l[0].toNat:Int)=48:=by rw[hx2,hx48];rfl
     have hbe:(l == [48])=false:=Yen.2 hl48;clear hq hqa hqn HND hx;rw[HNL.out];go_enter func92,ntmps92;rw[h22];go_wp2_with fail;refine(ch _).out.mono ?_;rintro e w2 ⟨rfl,rfl⟩;go_wp2_with fail;refine(ca _).out.mono ?_;rintro e w3 ⟨rfl,hb3⟩;go_wp2;go_ret;exact⟨rfl,hb3⟩
    ·have HNL:=hid (show(if l≠ [48]∧l[0]?=some 48 then none else Y51 10 l)=Y9a 10 l 0 by rw[Yed (by rw[hx];simp[hx48]),HND.out]);have hbe:(l == [48])=false:=Yen.2 hl48
     have hxi:((x.toNat:Int) == 48)=false:=by
      rw[Yen];intro e;exact hx48 (UInt8.toNat_inj.1 (by show x.toNat=48;exact Z7))
     clear hq hqa hqn hx;rw[HNL.out];go_enter func92,ntmps92;rw[h22];have cv:=fun w=>Y8s (P:=prog) 9 219 5 underlying9 underlying219 underlying5 (bs l) w
     have cv1:=YdT (P:=prog) 219 9 5 5 underlying219 underlying5 underlying9;go_wp2_with fail;refine(ch _).out.mono ?_;rintro e w2 ⟨rfl,rfl⟩;go_wp2_with fail;refine(ca _).out.mono ?_;rintro e w3 ⟨rfl,hb3⟩;obtain⟨cp,w4,hrun,hcp,hcell,hb4,hsz4,_⟩:=cv w3;rw[YJ]at hrun;go_wp2
     have HC:=hid (show ∀ (j:Nat) (c:UInt8),l[j]?=some c→w4.cell? ⟨w3.heap.size,j,none⟩=some (.int .u8 c.toNat)from fun j c hj=>by
      obtain⟨h1,h2⟩:=Yek.1 hj;subst h2
      exact(hcell j (by rw[YJ];exact h1)).trans rfl)
     have hb4':=hb3.trans (hb4.mono hb3.size);clear hcell hcp cv ch ca;go_loopw [4,36] (fun n i wr=>RNum 10 l w4 n i wr) (fun _ i _=>l.length - (intOf i).toNat)
     case atStart=>exact Z3w
     case round =>
      obtain⟨k,m,a,rfl,rfl,hk,hh,hb⟩:=hrel;obtain⟨ha,hm,hst⟩:=hh.out;clear hh;have hB:=hb.size;have bb:=hb4'.trans (hb.mono hb4'.size);by_cases hlt:k<l.length
      ·obtain⟨c,hc⟩: ∃c,l[k]?=some c:=⟨l[k],Yec hlt⟩;have hc1:=(hb.cell (p:=⟨w3.heap.size,k,none⟩) Zd).trans (HC.out k c hc);obtain⟨h1,h2⟩:=Yek.1 hc;have hdg:Y1E c<10:=YeE (Yew.1 HQ.out c (Yer hc));obtain⟨hix,hc128⟩:=Y53 c Z7;rw[Yev h1,h2,Y9a]at hst;have ci:=fun w=>hid (CI.out (lowA c) w)
       rw[hix]at ci;have clo:=fun w=>hid (cl c hc128 w)
       have cv2:=fun w=>hid (cv1 w (c.toNat:Int))
       have cv3: ∀w:World,(convert 219 9 (.slice (some ⟨w.heap.size,0,none⟩) 1 1)).run prog (w.alloc (.cells #[.int .u8 (c.toNat:Int)] 5))= .ok (.string (bs [c])) (w.alloc (.cells #[.int .u8 (c.toNat:Int)] 5)):=fun w=>by
        rw[(cv2 w).out,Y3o]
       clear hix hc h1 h2 cv2 cv1;by_cases hov:1099511627776≤m * 10+Y1E c
       ·rw[Yei hov]at hst;have HS:=hid hst;have hov':1099511627776≤a * 10+(Y1E c:Int):=Z7;have a0:0≤a:=Z7;have a1:a≤1099511627776:=Z7;clear hst hov hm ha;go_wp2_with fail;refine(clo _).out.mono ?_;rintro e w5 ⟨rfl,hb5⟩;go_wp2_with fail;refine(ci _).out.mono ?_;rintro e w6 ⟨rfl,rfl⟩;go_wp2;go_ret;rw[HS.out];exact⟨rfl,(bb.alloc bb.size _).trans (hb5.mono (by have:=bb.size;exact Zd))⟩
       ·rw[Yed hov]at hst;have HN:Hid (a * 10+(Y1E c:Int)=((m * 10+Y1E c:Nat):Int)∧m * 10+Y1E c<1099511627776∧Y9a 10 l 0=Y9a 10 (l.drop (k+1)) (m * 10+Y1E c)):=hid ⟨by omega,by omega,hst⟩;have hov':a * 10+(Y1E c:Int) < 1099511627776:=Z7;have a0:0≤a:=Z7;have a1:a≤1099511627776:=Z7;clear hst hov hm ha;go_wp2_with fail;refine(clo _).out.mono ?_;rintro e w5 ⟨rfl,hb5⟩;go_wp2_with fail;refine(ci _).out.mono ?_
        rintro e w6 ⟨rfl,rfl⟩;go_wp2;go_roundw
        case rel=>exact Z4e
        case measure=>exact Zw
      ·obtain rfl:k=l.length:=Z7;rw[YeX]at hst;have HS:=hid (hst.trans rfl);clear hst hb HC;go_wp2;go_ret;rw[HS.out];exact⟨by rw[ha];rfl,bb⟩
 case true =>
  have hnl:Y7p l=Y51 16 (l.drop 2):=by
   unfold Y7p;rw[Yei (YeE ((Y4Y l).symm.trans hp))]
  rw[hp]at ch
  have hl2:2≤l.length:=by
   have:=YeE ((Y4Y l).symm.trans hp);rcases YeU l.length 2 with h | h
   ·have:=Yeg List.length this;simp at this;exact Z7
   ·exact h
  obtain⟨t,htt⟩: ∃t,l.drop 2=t:=⟨_,rfl⟩;have htl:t.length≤1000000:=by rw[←htt,List.length_drop];exact Z7
  rw[htt]at hnl;rw[hnl]
  have hdl: ∀W,(Instr.slice 9 (.string (bs l)) (some (.int .i64 2)) none none).run prog W= .ok (.string (bs t)) W:=fun W=>by
   have:=cutFrom l 2 Z7 Z7 W;rw[htt]at this;exact this
  have ca:=fun w=>hid (Ye2 t Y5x (fun c=>decide (Y1E c<16)) YdA htl Z16 w)
  have hsl: ∀W,(Instr.slice 9 (.string (bs Y5x)) none (some (.int .i64 22)) none).run prog W= .ok (.string (bs Y5x)) W:=fun W=>cutTo Y5x 22 Z16 Z16 W
  clear hnl hp
  cases hq:(t.all (fun c=>decide (Y1E c<16)) && !(t == []))with
  | false =>
   have hnb:Y51 16 t=none:=by
    rcases Bool.and_eq_false_iff.1 hq with h | h
    ·exact Y89 16 t h
    ·have:t= []:=Z3o;rw[this];rfl
   rw[hq]at ca;rw[hnb];have HNI:numI (none)= -1:=by rfl
   rw[HNI];clear hq hnb HNI;go_enter func92,ntmps92;rw[h22];go_wp2_with fail;refine(ch _).out.mono ?_;rintro e w2 ⟨rfl,rfl⟩;go_wp2_with fail;go_quiet (fail);go_wp2_with fail;refine(ca _).out.mono ?_;rintro e w3 ⟨rfl,hb3⟩;have hb3:=(Yfk (Yea w.heap.size w) nq).trans hb3;go_wp2;go_ret;exact⟨rfl,hb3⟩
  | true =>
   obtain⟨hqa,hqn⟩:=Bool.and_eq_true_iff.1 hq;have hne:t≠ []:=by rintro rfl;cases hqn
   have HQ:=hid hqa;rw[hq]at ca;have HNL:=hid (Y6A 16 t hqa hne);clear hq hqa hqn hne;rw[HNL.out];go_enter func92,ntmps92;rw[h22];have cv:=fun w=>Y8s (P:=prog) 9 219 5 underlying9 underlying219 underlying5 (bs t) w
   have cv1:=YdT (P:=prog) 219 9 5 5 underlying219 underlying5 underlying9;go_wp2_with fail;refine(ch _).out.mono ?_;rintro e w2 ⟨rfl,rfl⟩;go_wp2_with fail;go_quiet (fail);go_wp2_with fail;refine(ca _).out.mono ?_;rintro e w3 ⟨rfl,hb3⟩;have hb3:=(Yfk (Yea w.heap.size w) nq).trans hb3;obtain⟨cp,w4,hrun,hcp,hcell,hb4,hsz4,_⟩:=cv w3;rw[YJ]at hrun;go_wp2
   have HC:=hid (show ∀ (j:Nat) (c:UInt8),t[j]?=some c→w4.cell? ⟨w3.heap.size,j,none⟩=some (.int .u8 c.toNat)from fun j c hj=>by
    obtain⟨h1,h2⟩:=Yek.1 hj;subst h2
    exact(hcell j (by rw[YJ];exact h1)).trans rfl)
   have hb4':=hb3.trans (hb4.mono hb3.size);clear hcell hcp cv ch ca;go_loopw [4,36] (fun n i wr=>RNum 16 t w4 n i wr) (fun _ i _=>t.length - (intOf i).toNat)
   case atStart=>exact Z3w
   case round =>
    obtain⟨k,m,a,rfl,rfl,hk,hh,hb⟩:=hrel;obtain⟨ha,hm,hst⟩:=hh.out;clear hh;have hB:=hb.size;have bb:=hb4'.trans (hb.mono hb4'.size);by_cases hlt:k<t.length
    ·obtain⟨c,hc⟩: ∃c,t[k]?=some c:=⟨t[k],Yec hlt⟩;have hc1:=(hb.cell (p:=⟨w3.heap.size,k,none⟩) Zd).trans (HC.out k c hc);obtain⟨h1,h2⟩:=Yek.1 hc;have hdg:Y1E c<16:=YeE (Yew.1 HQ.out c (Yer hc));obtain⟨hix,hc128⟩:=Y53 c Z7;rw[Yev h1,h2,Y9a]at hst;have ci:=fun w=>hid (CI.out (lowA c) w)
     rw[hix]at ci;have clo:=fun w=>hid (cl c hc128 w)
     have cv2:=fun w=>hid (cv1 w (c.toNat:Int))
     have cv3: ∀w:World,(convert 219 9 (.slice (some ⟨w.heap.size,0,none⟩) 1 1)).run prog (w.alloc (.cells #[.int .u8 (c.toNat:Int)] 5))= .ok (.string (bs [c])) (w.alloc (.cells #[.int .u8 (c.toNat:Int)] 5)):=fun w=>by
      rw[(cv2 w).out,Y3o]
     clear hix hc h1 h2 cv2 cv1;by_cases hov:1099511627776≤m * 16+Y1E c
     ·rw[Yei hov]at hst;have HS:=hid hst;have hov':1099511627776≤a * 16+(Y1E c:Int):=Z7;have a0:0≤a:=Z7;have a1:a≤1099511627776:=Z7;clear hst hov hm ha;go_wp2_with fail;refine(clo _).out.mono ?_;rintro e w5 ⟨rfl,hb5⟩;go_wp2_with fail;refine(ci _).out.mono ?_;rintro e w6 ⟨rfl,rfl⟩;go_wp2;go_ret;rw[HS.out];exact⟨rfl,(bb.alloc bb.size _).trans (hb5.mono (by have:=bb.size;exact Zd))⟩
     ·rw[Yed hov]at hst;have HN:Hid (a * 16+(Y1E c:Int)=((m * 16+Y1E c:Nat):Int)∧m * 16+Y1E c<1099511627776∧Y9a 16 t 0=Y9a 16 (t.drop (k+1)) (m * 16+Y1E c)):=hid ⟨by omega,by omega,hst⟩;have hov':a * 16+(Y1E c:Int) < 1099511627776:=Z7;have a0:0≤a:=Z7;have a1:a≤1099511627776:=Z7;clear hst hov hm ha;go_wp2_with fail;refine(clo _).out.mono ?_;rintro e w5 ⟨rfl,hb5⟩;go_wp2_with fail;refine(ci _).out.mono ?_
      rintro e w6 ⟨rfl,rfl⟩;go_wp2;go_roundw
      case rel=>exact⟨k+1,m * 16+Y1E c,a * 16+(Y1E c:Int),by go_num,rfl,by omega,HN,(hb.alloc hB _).trans (hb5.mono Zd)⟩
      case measure=>exact Zw
    ·obtain rfl:k=t.length:=Z7;rw[YeX]at hst;have HS:=hid (hst.trans rfl);clear hst hb HC;go_wp2;go_ret;rw[HS.out];exact⟨by rw[ha];rfl,bb⟩
end
section
open Go.Proofs.Tryz
open Go.RowKit
def YG:Nat→List UInt8→Nat→PL×Nat×Int
 | 0,_,_=>([],0,-1)
 | f+1,s,i=>if s= []then([],0,-1)else if(Y1T 0 s).2.2=false then([],7,(i:Int))else if(Y1T 61 (Y1T 0 s).1).2.2=false then([],3,(i:Int))else if i=60 then([],4,-1)else
  if Y2G (Y1T 61 (Y1T 0 s).1).1=false then([],5,(i:Int))else if YV (Y1T 61 (Y1T 0 s).1).2.1=false then([],3,(i:Int))else
  (((Y1T 61 (Y1T 0 s).1).1,(Y1T 61 (Y1T 0 s).1).2.1) :: (YG f (Y1T 0 s).2.1 (i+1)).1,(YG f (Y1T 0 s).2.1 (i+1)).2)
theorem Y5s(f i:Nat):YG (f+1) [] i=([],0,-1):=by rw[YG,Yei rfl]
theorem Y4D(f:Nat)(s:List UInt8)(i:Nat)(h:s≠ []):YG (f+1) s i=if(Y1T 0 s).2.2=false then([],7,(i:Int))else if(Y1T 61 (Y1T 0 s).1).2.2=false then([],3,(i:Int))else if i=60 then([],4,-1)else
 if Y2G (Y1T 61 (Y1T 0 s).1).1=false then([],5,(i:Int))else if YV (Y1T 61 (Y1T 0 s).1).2.1=false then([],3,(i:Int))else
 (((Y1T 61 (Y1T 0 s).1).1,(Y1T 61 (Y1T 0 s).1).2.1) :: (YG f (Y1T 0 s).2.1 (i+1)).1,(YG f (Y1T 0 s).2.1 (i+1)).2):=by
 rw[YG,Yed h]
theorem Yv:(prog.info? 78).map (fun i=>(i.zero,i.size,i.bytes))=some (some (.agg #[.string ⟨#[]⟩,.string ⟨#[]⟩]),2,32):=by kernel_rfl
theorem YbN(x:List UInt8×List UInt8):Yc [x]=if Y2G x.1=false then(5,0)else if YV x.2=false then(3,0)else(0,-1):=by
 rw[Yc,Yed Z2t,Y2b];rfl
def Y7F(l:List UInt8)(w:World)(e:Ending)(w':World):Prop:=
 (∃v er,e= .returned (.tuple #[v,er])∧Y1c w' er (YG (l.length+1) l 0).2.1 (YG (l.length+1) l 0).2.2∧PSl w' v (if(YG (l.length+1) l 0).2.1=0 then(YG (l.length+1) l 0).1 else [])∧Y70 w.heap.size v)∧Below w.heap.size w w'
def RPParse(l:List UInt8)(w:World)(s v:Value)(wr:World):Prop:=
 ∃ (r:List UInt8) (f:Nat) (xs:PL),r.length≤l.length∧r.length<f∧xs.length≤60∧s= .string (bs r)∧
  YG (l.length+1) l 0=(xs ++ (YG f r xs.length).1,(YG f r xs.length).2)∧wr.ownsRow w.heap.size 78 2 v xs.length (Y0 xs)∧Below w.heap.size w wr
theorem PBd.one(x:List UInt8×List UInt8)(h1:x.1.length≤9223372036854775807)(h2:x.2.length≤9223372036854775807):PBd [x]:=
 ⟨by simp,fun k=>by cases k with | zero=>exact⟨h1,h2⟩ | succ k=>simp⟩
theorem YdQ(c:UInt8)(l:List UInt8):(Y1T c l).1.length≤l.length∧(Y1T c l).2.1.length≤l.length:=by
 induction l with
 | nil=>simp[Y1T]
 | cons b l ih =>
  rw[Y1T]
  split
  ·simp
  ·simp;omega
theorem Yde(l:List UInt8)(w:World)(hl:l.length≤1099511627776)(hg:Y2e w):
 Calls prog 161 #[.string (bs l)] w fun e w'=>Y7F l w e w':=by
 have e61:(⟨#[61]⟩:ByteArray)=bs [61]:=rfl;have e00:(⟨#[0]⟩:ByteArray)=bs [0]:=rfl;go_enter func161,ntmps161;go_wp2;go_loopw [0,4] (fun s v wr=>RPParse l w s v wr) (fun s _ _=>Y7d s)
 case atStart=>exact⟨l,l.length+1,[],by omega,by omega,by simp,rfl,by simp,by exact YeD _ _ _ _,Yea _ _⟩
 case round =>
  obtain⟨r,f,xs,hrl,hf,hx,rfl,heq,hown,hb⟩:=hrel;obtain⟨f,rfl⟩: ∃g,f=g+1:=⟨f - 1,by omega⟩;have hB:=hb.size;by_cases h0:r= []
  ·have e:=Y5s f xs.length;rw[h0,e]at heq;simp only[Yfd]at heq;have Heq:=hid heq;clear heq e;subst h0;go_wp2;go_ret2;refine⟨⟨u4,.nilIface,rfl,?_,?_,Y6K hown⟩,hb⟩
   ·rw[Heq.out];exact .nil
   ·rw[Heq.out,Yei rfl];exact Yx hown
  ·have hne:(!r.isEmpty)=true:=by cases r with | nil=>exact absurd rfl h0 | cons a b=>rfl
   rw[Y4D f r _ h0]at heq;obtain⟨A,cap,rfl⟩:=Y1I hown;have c1:=fun w=>hid (Ybg r 0 w Z7)
   have hcl:=YdQ 0 r;have hcl2:=Y6S 0 r;unfold Y73 at c1;generalize Y1T 0 r=x at *;obtain⟨x1,x2,x3⟩:=x;simp only at *
   cases x3 with
   | false =>
    rw[Yei rfl]at heq;simp only[Yfd]at heq;have Heq:=hid heq;clear heq hcl2 h0;go_wp2_with (go_at_call 203;refine(c1 _).out.mono ?_;rintro e w1 ⟨rfl,n1,rfl⟩);go_ret2;refine⟨⟨_,_,rfl,?_,?_,Y1P _⟩,(Yfk hb n1).alloc hB _⟩
    ·rw[Heq.out];exact Y5c (wr.drewN n1) 7 _ Z7
    ·rw[Heq.out,Yed Z2t];exact Y37 _
   | true =>
    have hcl2:=hcl2 rfl;rw[Yed Z2t]at heq;have c2:=fun w=>hid (Ybg x1 61 w Z7)
    have hcm:=YdQ 61 x1;unfold Y73 at c2;generalize Y1T 61 x1=y at *;obtain⟨y1,y2,y3⟩:=y;simp only at *
    cases y3 with
    | false =>
     rw[Yei rfl]at heq;simp only[Yfd]at heq;have Heq:=hid heq;clear heq h0;go_wp2_with fail;refine(c1 _).out.mono ?_;rintro e w1 ⟨rfl,n1,rfl⟩;go_wp2_with fail;refine(c2 _).out.mono ?_;rintro e w1 ⟨rfl,n2,rfl⟩;go_wp2_with fail;go_ret2;refine⟨⟨_,_,rfl,?_,?_,Y1P _⟩,(Yfk hb _).alloc hB _⟩
     ·rw[Heq.out];exact Y5c (wr.drewN _) 3 _ Z7
     ·rw[Heq.out,Yed Z2t];exact Y37 _
    | true =>
     rw[Yed Z2t]at heq;have c3:=fun v w h=>hid (Y22 v [(y1,y2)] w h (PBd.one _ Zd Zd))
     have hbd:=fun n=>Yfk hb n
     have hx1:xs.length≤60:=hx;by_cases h60:xs.length=60
     ·rw[Yei h60]at heq;simp only[Yfd]at heq;have hb60:((xs.length:Int) == 60)=true:=by rw[Yfb];exact Z7
      have Heq:=hid heq;clear heq h0 h60 c3;go_wp2_with fail;refine(c1 _).out.mono ?_;rintro e w1 ⟨rfl,n1,rfl⟩;go_wp2_with fail;refine(c2 _).out.mono ?_;rintro e w1 ⟨rfl,n2,rfl⟩;simp only[World.drewN_drewN];have hb2:=hbd (n1+n2);have hown2:(wr.drewN (n1+n2)).ownsRow w.heap.size 78 2 (.slice A xs.length cap) xs.length (Y0 xs):=hown;have hB2:=hb2.size;clear hown hb hB hbd c1 c2;generalize wr.drewN (n1+n2)=w2 at *
      go_wp2_with (at_builtin;refine Yj rfl (.tmp 40) (.tmp 44) 27 rfl w.heap.size 78 (.agg #[.string ⟨#[]⟩,.string ⟨#[]⟩]) 2 32 underlying27 Yv rfl Z16 _ xs.length (Y0 xs) rfl (hown2.alloc _) ⟨w2.heap.size,0,none⟩ 1 1 [.string (bs y1),.string (bs y2)] rfl rfl (YeW _ _ _ _) Z1H ZS Z7 Zd ?_;intro v' w3 hown3 hgrow _);go_ret2;refine⟨⟨_,_,rfl,?_,?_,Y1P _⟩,Yp (hb2.alloc hB2 _) (hown2.alloc _) hgrow Zd⟩
      ·rw[Heq.out];exact .bare 4 Z7
      ·rw[Heq.out,Yed Z2t];exact Y37 _
     ·rw[Yed h60]at heq;have hb60:((xs.length:Int) == 60)=false:=Z1r;have hx59:xs.length≤59:=Z7;clear h60;unfold Y2B at c3;simp only[YbN]at c3;go_wp2_with fail;refine(c1 _).out.mono ?_;rintro e w1 ⟨rfl,n1,rfl⟩;go_wp2_with fail;refine(c2 _).out.mono ?_;rintro e w1 ⟨rfl,n2,rfl⟩;simp only[World.drewN_drewN];have hb2:=hbd (n1+n2);have hown2:(wr.drewN (n1+n2)).ownsRow w.heap.size 78 2 (.slice A xs.length cap) xs.length (Y0 xs):=hown
      have hB2:=hb2.size;clear hown hb hB hbd c1 c2;generalize wr.drewN (n1+n2)=w2 at *;have Heq:=hid heq;clear heq h0;go_wp2_with (at_builtin;refine Yj rfl (.tmp 40) (.tmp 44) 27 rfl w.heap.size 78 (.agg #[.string ⟨#[]⟩,.string ⟨#[]⟩]) 2 32 underlying27 Yv rfl Z16 _ xs.length (Y0 xs) rfl (hown2.alloc _) ⟨w2.heap.size,0,none⟩ 1 1 [.string (bs y1),.string (bs y2)] rfl rfl (YeW _ _ _ _) Z1H ZS Z7 Zd ?_;intro v' w3 hown3 hgrow _;obtain⟨g,c3',rfl,hgc,hgm,hgB,hgcell⟩:=own_form hown3 Z7 Z7;have hsl:=YcG g xs.length c3' hgc)
      have hps:PSl w3 (.slice (some ⟨g,xs.length * 2,none⟩) 1 (c3' - xs.length)) [(y1,y2)]:=by
       refine⟨_,_,rfl,by rfl,.inr ⟨g,xs.length * 2,rfl,fun j u hu=> ?_⟩⟩;have:=hgcell (xs.length * 2+j) u (by rw[Yfv Z4s,Yr];simpa[Y0]using hu);exact this
      have c3:=c3 _ _ hps;refine c3.out.mono ?_;rintro e w4 ⟨⟨er,rfl,her⟩,hb4⟩;have hb3:Below w.heap.size w w3:=Yp (hb2.alloc hB2 _) (hown2.alloc _) hgrow Zd;have hb5:=hb3.trans (hb4.mono hb3.size);have hown4:=Y2 hown3 hb4;clear c3 hps hsl hgrow hown2 hb4 hgcell hown3
      cases hk1:Y2G y1 with
      | false =>
       rw[hk1]at her Heq;have her:Y1c w4 er 5 0:=her;have Heq:Hid (YG (l.length+1) l 0=(xs ++ [],5,(xs.length:Int))):=Heq;have c5:=hid (Y4Q er 5 0 w4 (hg.below hb5) her);obtain⟨b,rfl⟩:=Ybd her Z7 Z7;clear her hk1;go_wp2_with (go_at_call 40;refine c5.out.mono ?_;rintro e w5 ⟨rfl,hb6⟩);have hb7:=hb5.trans (hb6.mono hb5.size);go_ret2;refine⟨⟨_,_,rfl,?_,?_,Y1P _⟩,hb7.alloc hb7.size _⟩
       ·rw[Heq.out];exact Y5c w5 5 _ Z7
       ·rw[Heq.out,Yed Z2t];exact Y37 _
      | true =>
       rw[hk1]at her Heq
       cases hv2:YV y2 with
       | false =>
        rw[hv2]at her Heq;have her:Y1c w4 er 3 0:=her;have Heq:Hid (YG (l.length+1) l 0=(xs ++ [],3,(xs.length:Int))):=Heq;have c5:=hid (Y4Q er 3 0 w4 (hg.below hb5) her);obtain⟨b,rfl⟩:=Ybd her Z7 Z7;clear her hk1 hv2;go_wp2_with (go_at_call 40;refine c5.out.mono ?_;rintro e w5 ⟨rfl,hb6⟩);have hb7:=hb5.trans (hb6.mono hb5.size);go_ret2;refine⟨⟨_,_,rfl,?_,?_,Y1P _⟩,hb7.alloc hb7.size _⟩
        ·rw[Heq.out];exact Y5c w5 3 _ Z7
        ·rw[Heq.out,Yed Z2t];exact Y37 _
       | true =>
        rw[hv2]at her Heq;have her:Y1c w4 er 0 (-1):=her;have Heq:Hid (YG (l.length+1) l 0=(xs ++ (y1,y2) :: (YG f x2 (xs.length+1)).1,(YG f x2 (xs.length+1)).2)):=Heq;obtain rfl:=Y4L her;clear her hk1 hv2;go_wp2;go_roundw
        case rel=>exact⟨x2,f,xs ++ [(y1,y2)],by omega,by omega,by simp;omega,rfl,by rw[Heq.out];simp,by rw[Ys,Yem];exact hown4,hb5⟩
        case measure=>simp[Y7d,YJ];exact Z7
theorem Z3d{P:Prop}(h:P:=by
 rintro⟨rfl,_⟩
 simp at hjl):P:=h
end
section
open Go.Proofs.Tryz
open Go.RowKit
def upL:List UInt8:= [65,66,67,68,69,70,71,72,73,74,75,76,77,78,79,80,81,82,83,84,85,86,87,88,89,90]
def lowL:List UInt8:= [97,98,99,100,101,102,103,104,105,106,107,108,109,110,111,112,113,114,115,116,117,118,119,120,121,122]
def Ya8:List UInt8:= [48,49,50,51,52,53,54,55,56,57,46,45,43,64,95]
theorem low_any(w:World):Calls prog 132 #[.string (bs upL)] w fun e w'=>e= .returned (.string (bs lowL))∧Below w.heap.size w w':=by
 refine(Tryz.strings_ToLower_ascii (bs upL) w (by rw[YJ];exact Z16) ?_).mono ?_
 ·have h: ∀b∈upL,b.toNat<128:=Z16;intro j b hb;exact h b (Yer hb)
 ·rintro e w' ⟨rfl,hb⟩;exact⟨rfl,hb⟩
theorem up_idx: ∀n,n<256→decide (Lib.indexByte upL (UInt8.ofNat n) < 0)= !Y5W (UInt8.ofNat n):=by decide +kernel
theorem all_idx: ∀n,n<256→decide (Lib.indexByte (upL ++ (lowL ++ Ya8)) (UInt8.ofNat n) < 0)= !(Y5W (UInt8.ofNat n) || Y2N (UInt8.ofNat n)):=by decide +kernel
theorem up_idx'(c:UInt8):decide (Lib.indexByte upL c<0)= !Y5W c:=by
 have:=up_idx c.toNat c.toNat_lt
 rwa [UInt8.ofNat_toNat]at this
theorem all_idx'(c:UInt8):decide (Lib.indexByte (upL ++ (lowL ++ Ya8)) c<0)= !(Y5W c || Y2N c):=by
 have:=all_idx c.toNat c.toNat_lt
 rwa [UInt8.ofNat_toNat]at this
def RRKey(l:List UInt8)(w w1:World)(i:Value)(wr:World):Prop:=
 ∃k:Nat,k≤l.length∧i= .int .i64 k∧Y3b 0 l=Y3b k (l.drop k)∧Below w1.heap.size w1 wr
theorem YaT(l:List UInt8)(w:World)(hl:l.length≤9223372036854775807):
 Calls prog 79 #[.string (bs l)] w fun e w'=>e= .returned (.bool (Y2G l))∧Below w.heap.size w w':=by
 refine Z28 ?_;intro cv;obtain⟨cp,w1,hrun,hcp,hcell,hb1,hsz1,_⟩:=cv w;rw[YJ]at hrun;refine Z56 ?_;clear cv hcell;intro Hcell;have hu:(⟨#[65,66,67,68,69,70,71,72,73,74,75,76,77,78,79,80,81,82,83,84,85,86,87,88,89,90]⟩:ByteArray)=bs upL:=rfl;have hr:(⟨#[48,49,50,51,52,53,54,55,56,57,46,45,43,64,95]⟩:ByteArray)=bs Ya8:=rfl;have c3:=fun w=>hid (low_any w)
 have ui:=fun c=>hid (up_idx' c)
 have ai:=fun c=>hid (all_idx' c)
 have hulen:upL.length≤100:=Z16;have hallen:(upL ++ (lowL ++ Ya8)).length≤100:=Z16;have hn1: ¬9223372036854775807<lowL.length+Ya8.length:=Z16;have hn2: ¬9223372036854775807<upL.length+(lowL.length+Ya8.length):=Z16;generalize upL=U at *;generalize lowL=W at *;generalize Ya8=R at *;go_enter func79,ntmps79;go_wp2;go_loopw [9] (fun i wr=>RRKey l w w1 i wr) (fun i _=>l.length - (intOf i).toNat)
 case atStart=>exact Z1g
 case round =>
  obtain⟨k,hk,rfl,hall,hb⟩:=hrel;by_cases hlt:k<l.length
  ·have hx:l[k].toNat<256:=l[k].toNat_lt;have hc:=(hb.cell (p:=⟨w.heap.size,k,none⟩) Zd).trans (Hcell.out k hlt);rw[Yev hlt,Y3b]at hall;by_cases h0:k=0
   ·have hk0:kOk k l[k]=Y5W l[k]:=by rw[kOk];simp[h0]
    rw[hk0]at hall;have Hall:=hid hall;clear hall hk0;subst h0;have c1:=fun w=>hid (Y1y U l[0] w Z7)
    have hui:=(ui l[0]).out;generalize Lib.indexByte U l[0]=ib at *
    cases hg:Y5W l[0]with
    | true =>
     rw[hg]at Hall hui;have hib: ¬ib<0:=YfQ hui;clear hui hg;go_wp2_with (go_at_call 133;refine(c1 _).out.mono ?_;rintro e w1 ⟨rfl,rfl⟩);go_roundw
     case rel=>exact⟨0+1,by omega,by go_num,by rw[Hall.out];simp,hb⟩
     case measure=>exact Zw
    | false =>
     rw[hg]at Hall hui;have hib:ib<0:=YeE hui;clear hui hg;go_wp2_with (go_at_call 133;refine(c1 _).out.mono ?_;rintro e w1 ⟨rfl,rfl⟩);go_ret;exact⟨by rw[Y2G,Hall.out];simp,hb1.trans (hb.mono hb1.size)⟩
   ·have hk0:kOk k l[k]=(Y5W l[k] || Y2N l[k]):=by rw[kOk,Yel (show 0<k from Z7),Bool.true_and]
    rw[hk0]at hall;have Hall:=hid hall;clear hall hk0;have c1:=fun w=>hid (Y1y (U ++ (W ++ R)) l[k] w Z7)
    have hui:=(ai l[k]).out;generalize Lib.indexByte (U ++ (W ++ R)) l[k]=ib at *;have hkI:decide (0< (k:Int))=true:=Yel Z7;have hkN:0<k:=Z7
    cases hg:(Y5W l[k] || Y2N l[k])with
    | true =>
     rw[hg]at Hall hui;have hib: ¬ib<0:=YfQ hui;clear hui hg;go_wp2_with first
      | (go_at_call 132;refine(c3 _).out.mono ?_;rintro e w2 ⟨rfl,hb2⟩)
      | (go_at_call 133;refine(c1 _).out.mono ?_;rintro e w3 ⟨rfl,rfl⟩)
     go_roundw
     case rel=>exact⟨k+1,by omega,by go_num,by rw[Hall.out];simp,hb.trans (hb2.mono hb.size)⟩
     case measure=>exact Zw
    | false =>
     rw[hg]at Hall hui;have hib:ib<0:=YeE hui;clear hui hg;go_wp2_with first
      | (go_at_call 132;refine(c3 _).out.mono ?_;rintro e w2 ⟨rfl,hb2⟩)
      | (go_at_call 133;refine(c1 _).out.mono ?_;rintro e w3 ⟨rfl,rfl⟩)
     go_ret;have hbA:=hb1.trans (hb.mono hb1.size);exact⟨by rw[Y2G,Hall.out];simp,hbA.trans (hb2.mono hbA.size)⟩
  ·obtain rfl:k=l.length:=Z7;rw[YeX]at hall;have Hall:=hid hall;clear hall;by_cases hw:1≤l.length∧l.length≤63
   ·have c5:=fun w=>hid (YK (l.length:Nat) 1 63 w Z7 Z7)
    go_wp2_with (go_at_call 100;refine(c5 _).out.mono ?_;rintro e w2 ⟨rfl,rfl⟩);go_ret;refine⟨?_,hb1.trans (hb.mono hb1.size)⟩;rw[Y2G,Hall.out,Y3b,Yel hw.1,Yel hw.2];rfl
   ·have c5:=fun w=>hid (YZ (l.length:Nat) 1 63 w Z7)
    go_wp2_with (go_at_call 100;refine(c5 _).out.mono ?_;rintro e w2 ⟨rfl,rfl⟩);go_ret;refine⟨?_,hb1.trans (hb.mono hb1.size)⟩;rw[Y2G,Hall.out,Y3b];have:(true && decide (1≤l.length) && decide (l.length≤63))=false:=Zd;rw[this];rfl
theorem Z3j{P:Prop}(h:P:=by
 simp[World.setCell]):P:=h
end
section
open Go.Proofs.Tryz
open Go.RowKit
def Y3m:List (List UInt8)→Nat→PL×Nat×Int
 | [],_=>([],0,-1)
 | [x],i=>if x= []then([],0,-1)else([],7,(i:Int))
 | x :: y :: ps,i=>if(Y1T 61 x).2.2=false then([],3,(i:Int))else if i=60 then([],4,-1)else
  if Y2G (Y1T 61 x).1=false then([],5,(i:Int))else if YV (Y1T 61 x).2.1=false then([],3,(i:Int))else
  (((Y1T 61 x).1,(Y1T 61 x).2.1) :: (Y3m (y :: ps) (i+1)).1,(Y3m (y :: ps) (i+1)).2)
theorem YbM(f:Nat)(s:List UInt8)(i:Nat)(h:s.length<f):Y3m (Yg 0 s) i=YG f s i:=by
 induction f generalizing s i with
 | zero=>omega
 | succ f ih =>
  by_cases h0:s= []
  ·subst h0;rw[Y5s];rfl
  ·rw[Y4D f s i h0,Ycm];have hl:=Y6S 0 s
   cases hc:(Y1T 0 s).2.2 with
   | false=>simp[Y3m,h0]
   | true =>
    rw[Yei rfl,Yed Z2t];have hl:=hl hc
    obtain⟨y,ps,hy⟩: ∃y ps,Yg 0 (Y1T 0 s).2.1=y :: ps:=by
     cases hp:Yg 0 (Y1T 0 s).2.1 with
     | nil=>exact absurd hp (Y4R _ _)
     | cons y ps=>exact⟨y,ps,rfl⟩
    rw[hy,Y3m,←hy,ih _ _ Z7]
theorem Yae(x:List UInt8)(ps:List (List UInt8))(i:Nat)(h:ps≠ []):Y3m (x :: ps) i=if(Y1T 61 x).2.2=false then([],3,(i:Int))else if i=60 then([],4,-1)else
 if Y2G (Y1T 61 x).1=false then([],5,(i:Int))else if YV (Y1T 61 x).2.1=false then([],3,(i:Int))else
 (((Y1T 61 x).1,(Y1T 61 x).2.1) :: (Y3m ps (i+1)).1,(Y3m ps (i+1)).2):=by
 cases ps with
 | nil=>exact absurd rfl h
 | cons y ps=>rw[Y3m]
def pieceLe(ps:List (List UInt8))(n:Nat):Prop:= ∀p∈ps,p.length≤n
theorem YcE(c:UInt8)(l:List UInt8):pieceLe (Yg c l) l.length:=by
 induction l with
 | nil=>intro p hp;simp[Yg]at hp;simp[hp]
 | cons b l ih =>
  rw[Yg]
  split
  ·intro p hp;rcases Yf0.1 hp with rfl | hp
   ·simp
   ·have:=ih p hp;simp;omega
  ·rename_i hb
   cases hs:Yg c l with
   | nil=>exact absurd hs (Y4R _ _)
   | cons q qs =>
    rw[hs]at ih;intro p hp;rcases Yf0.1 hp with rfl | hp
    ·have:=ih q Z2t;simp;omega
    ·have:=ih p (by simp[hp]);simp;omega
def YaJ(R:PL×Nat×Int)(w:World)(e:Ending)(w':World):Prop:=
 (∃v,e= .returned (.tuple #[v,YS R.2.1 R.2.2])∧PSl w' v (if R.2.1=0 then R.1 else [])∧Y70 w.heap.size v)∧Below w.heap.size w w'
theorem Y2Y{R:PL×Nat×Int}{xs:PL}{k:Nat}{pl:Int}{w w':World}(hR:R=(xs,k,pl))(hk:0<k)(hb:Below w.heap.size w w'):YaJ R w (.returned (.tuple #[.slice none 0 0,.agg #[.int .i64 k,.int .i64 pl]])) w':=by
 subst hR;exact⟨⟨_,rfl,by rw[Yed Zd];exact Y37 _,Y1P _⟩,hb⟩
def RUnp(R:PL×Nat×Int)(ps:List (List UInt8))(w1:World)(v i:Value)(wr:World):Prop:=
 ∃ (k:Nat) (xs:PL),k+1≤ps.length∧k≤60∧xs.length=k∧i= .int .i64 (k:Nat)∧R=(xs ++ (Y3m (ps.drop k) k).1,(Y3m (ps.drop k) k).2)∧
  wr.ownsRow w1.heap.size 78 2 v xs.length (Y0 xs)∧Below w1.heap.size w1 wr
theorem Z13{P Q:Prop}(k:Q)(h:Q→P:=by
 have q0:=(hb3.cell (p:=⟨w.heap.size,0,none⟩) hszw).trans q0
 have q1:=(hb3.cell (p:=⟨w.heap.size,1,none⟩) hszw).trans q1
 have f0:=(hb3.frozen (p:=⟨w.heap.size,0,none⟩) hszw).trans f0
 have f1:=(hb3.frozen (p:=⟨w.heap.size,1,none⟩) hszw).trans f1
 refine fun z_=>?_
 revert f1;revert f0;revert q1;revert q0
 exact z_):P:=h k
theorem Z2K{P:Prop}(h:P:=by
 simp[results,results109,go_sem,q0,q1]):P:=h
theorem Y9M(l:List UInt8)(w:World)(hl:l.length≤1099511627776):
 Calls prog 109 #[.string (bs l)] w fun e w'=>YaJ (YG (l.length+1) l 0) w e w':=by
 have e00:(⟨#[0]⟩:ByteArray)=bs [0]:=rfl;have c1:=fun w=>hid (Y4h 0 l w hl)
 rw[←YbM (l.length+1) l 0 Z7];have hne:=Y4R 0 l;have hple:=YcE 0 l;have hcnt:=Y1K 0 l;have hcl:l.count 0≤l.length:=YfG;generalize Yg 0 l=ps at *;have hps1:1≤ps.length:=Ygi.2 hne;have hpsl:ps.length≤1099511627777:=Z7;clear hcnt hcl hne;generalize hR:Y3m ps 0=R;have HR:=hid hR;clear hR;have hsub:IntKind.i64.wrap ((ps.length:Int) - 1)=((ps.length - 1:Nat):Int):=ZZ
 have hb0:Below w.heap.size w (w.alloc (.cells #[.int .i64 0,.int .i64 0] 38)):=(Yea _ _).alloc (Ye9 _) _;have hF:=YeC w (.cells #[.int .i64 0,.int .i64 0] 38);have hP:=YeC (w.alloc (.cells #[.int .i64 0,.int .i64 0] 38)) (.cells (Y4B ps) 9);have hF1:=(YfE (w.alloc (.cells #[.int .i64 0,.int .i64 0] 38)) (.cells (Y4B ps) 9) w.heap.size Z2t).trans hF
 have hb1:=hb0.alloc hb0.size (.cells (Y4B ps) 9);have hsz1:w.heap.size+1< ((w.alloc (.cells #[.int .i64 0,.int .i64 0] 38)).alloc (.cells (Y4B ps) 9)).heap.size:=Z2t;have hE:(w.alloc (.cells #[.int .i64 0,.int .i64 0] 38)).heap.size=w.heap.size+1:=Z2t;rw[hE]at hP;have Hx:=hid (And.intro hF1 hP);clear hF hP hF1 hE hb0;go_enter func109,ntmps109;go_wp2_with fail;refine(c1 _).out.mono ?_;rintro e w1 ⟨rfl,rfl⟩
 clear c1;generalize ((w.alloc (.cells #[.int .i64 0,.int .i64 0] 38)).alloc (.cells (Y4B ps) 9))=w1 at *;have hbA:=hb1
 have hgs: ∀k,k<ps.length→w1.cell? ⟨w.heap.size+1,k,none⟩=some (.string (bs (ps.getD k []))):=by
  intro k hk;rw[YeJ _ _ _ _ _ _ Hx.out.2,Y7Q _ _ hk];simp[List.getD,hk,bs]
 have Hgs:=hid hgs;clear hgs;have HF:=hid Hx.out.1;clear Hx;go_wp2_with fail;go_loopw [4,17] (fun v i wr=>RUnp R ps w1 v i wr) (fun _ i _=>ps.length - (intOf i).toNat)
 case atStart=>exact⟨0,[],by omega,by omega,rfl,rfl,by rw[←HR.out];simp,YeD _ _ _ _,Yea _ _⟩
 case round =>
  obtain⟨k,xs,hk,hk60,hxk,rfl,heq,hown,hb⟩:=hrel;have hB:=hb.size;have hszw:w.heap.size<wr.heap.size:=Z7;have hblk:=(hb.block w.heap.size Z7).trans HF.out;refine Z10 ?_;intro q0 q1 f0 f1;clear hblk;have hg:=(hb.cell (p:=⟨w.heap.size+1,k,none⟩) Zd).trans (Hgs.out k Z7);by_cases hlt:k+1<ps.length
  ·have hdr:ps.drop k=ps.getD k [] :: ps.drop (k+1):=by rw[Yev Z7];simp[List.getD,show k<ps.length by omega]
   have hxl:(ps.getD k []).length≤l.length:=hple _ (by rw[List.getD,Yec Z7];exact Z2t);rw[hdr,Yae _ _ _ (by intro h;have:=Yeg List.length h;simp at this;exact Z7)]at heq;clear hdr;generalize ps.getD k []=x at *;have hlt':(k:Int) < ((ps.length - 1:Nat):Int):=Z7;have hltN:k<ps.length - 1:=Z7;have c1:=fun w=>hid (Y1y x 61 w Z7)
   rcases Y2H x 61 with ⟨h1,h2⟩ | ⟨j,h1,hj,h3,h4⟩
   ·rw[Y5e 61 x h2,Yei rfl]at heq;rw[h1]at c1;simp only[Yfd]at heq;have Heq:=hid heq;clear heq h1 h2;go_wp2_with (go_at_call 133;refine(c1 _).out.mono ?_;rintro e w2 ⟨rfl,rfl⟩);refine Yej (v:= .tuple #[.slice none 0 0,.agg #[.int .i64 3,.int .i64 (k:Nat)]]) Z2K rfl ?_;exact Y2Y (k:=3) Heq.out Z7 (((hbA.trans (hb.mono hbA.size)).setCell (Ye9 _) _).setCell (Ye9 _) _)
   ·rw[Y67 61 x j h3 h4,Yed Z2t]at heq;rw[h1]at c1;simp only at heq;clear h1 h3 h4;have hbW:=hbA.trans (hb.mono hbA.size);by_cases h60:k=60
    ·rw[Yei h60]at heq;simp only[Yfd]at heq;have hb60:((k:Int) == 60)=true:=by rw[Yfb];exact Z7
     have Heq:=hid heq;clear heq h60;go_wp2_with first
      | (go_at_call 133;refine(c1 _).out.mono ?_;rintro e w2 ⟨rfl,rfl⟩)
      | (go_at_call 71;refine(Y27 _ _).mono ?_;rintro e w3 ⟨rfl,hb3⟩;refine Z13 ?_;intro q0 q1 f0 f1)
     refine Yej (v:= .tuple #[.slice none 0 0,.agg #[.int .i64 4,.int .i64 (-1)]]) Z2K rfl ?_;exact Y2Y (k:=4) Heq.out Z7 (((hbW.trans (hb3.mono hbW.size)).setCell (Ye9 _) _).setCell (Ye9 _) _)
    ·rw[Yed h60]at heq;have hb60:((k:Int) == 60)=false:=Z1r;have hk59:k≤59:=Z7;have c2:=fun w=>hid (YaT (x.take j) w Zd)
     have c3:=fun w=>hid (Y5n (x.drop (j+1)) w Zd)
     have s1:IntKind.i64.wrap ((j:Int) +1)=(j:Int) +1:=ZZ;have s2:(0:Int)≤(j:Int) +1:=Z7;have s3:((j:Int) +1).toNat=j+1:=Z7;have s4:(j:Int) +1≤(x.length:Int):=Z7;have s5:(j:Int)≤(x.length:Int):=Z7;clear h60
     cases hk1:Y2G (x.take j)with
     | false =>
      rw[hk1]at c2;rw[Yei hk1]at heq;simp only[Yfd]at heq;have Heq:=hid heq;clear heq hk1;go_wp2_with first
       | (go_at_call 133;refine(c1 _).out.mono ?_;rintro e w2 ⟨rfl,rfl⟩)
       | (go_at_call 79;refine(c2 _).out.mono ?_;rintro e w3 ⟨rfl,hb3⟩;refine Z13 ?_;intro q0 q1 f0 f1)
      refine Yej (v:= .tuple #[.slice none 0 0,.agg #[.int .i64 5,.int .i64 (k:Nat)]]) Z2K rfl ?_;exact Y2Y (k:=5) Heq.out Z7 (((hbW.trans (hb3.mono hbW.size)).setCell (Ye9 _) _).setCell (Ye9 _) _)
     | true =>
      rw[hk1]at c2;rw[Yed (by simp[hk1])]at heq
      cases hv2:YV (x.drop (j+1))with
      | false =>
       rw[hv2]at c3;rw[Yei hv2]at heq;simp only[Yfd]at heq;have Heq:=hid heq;clear heq hk1 hv2;go_wp2_with first
        | (go_at_call 133;refine(c1 _).out.mono ?_;rintro e w2 ⟨rfl,rfl⟩)
        | (go_at_call 79;refine(c2 _).out.mono ?_;rintro e w3 ⟨rfl,hb3⟩;refine Z13 ?_;intro q0 q1 f0 f1;have hszw3:=Yee hszw hb3.size)
        | (go_at_call 80;refine(c3 _).out.mono ?_;rintro e w4 ⟨rfl,hb4⟩;have q0:=(hb4.cell (p:=⟨w.heap.size,0,none⟩) hszw3).trans q0;have q1:=(hb4.cell (p:=⟨w.heap.size,1,none⟩) hszw3).trans q1;have f0:=(hb4.frozen (p:=⟨w.heap.size,0,none⟩) hszw3).trans f0;have f1:=(hb4.frozen (p:=⟨w.heap.size,1,none⟩) hszw3).trans f1)
       refine Yej (v:= .tuple #[.slice none 0 0,.agg #[.int .i64 3,.int .i64 (k:Nat)]]) Z2K rfl ?_;have hbX:=hbW.trans (hb3.mono hbW.size);exact Y2Y (k:=3) Heq.out Z7 (((hbX.trans (hb4.mono hbX.size)).setCell (Ye9 _) _).setCell (Ye9 _) _)
      | true =>
       rw[hv2]at c3;rw[Yed (by simp[hv2])]at heq;have Heq:=hid heq;clear heq hk1 hv2;go_wp2_with first
        | (go_at_call 133;refine(c1 _).out.mono ?_;rintro e w2 ⟨rfl,rfl⟩)
        | (go_at_call 79;refine(c2 _).out.mono ?_;rintro e w3 ⟨rfl,hb3⟩)
        | (go_at_call 80;refine(c3 _).out.mono ?_;rintro e w4 ⟨rfl,hb4⟩)
       have hb5:=(hb.trans (hb3.mono hB)).trans (hb4.mono (Yeu hB hb3.size));have hown5:=Y2 (Y2 hown hb3) hb4;clear hb hb3 hb4 hown c1 c2 c3 q0 q1 f0 f1 hg hbW;have hB5:=hb5.size;go_region_law (refine Y13 rfl (.tmp 46) (.tmp 55) 27 rfl w1.heap.size 78 (.agg #[.string ⟨#[]⟩,.string ⟨#[]⟩]) 2 32 underlying27 Yv rfl Z16 u4 xs.length (Y0 xs) (by simp[Act.eval]) (hown5.alloc _) ⟨w4.heap.size,0,none⟩ 1 1 [.string (bs (x.take j)),.string (bs (x.drop (j+1)))] (by simp[Act.eval]) rfl (YeW _ _ _ _) Z1H ZS Z7 Zd ?_;intro v' w5 hown6 hgrow _)
       simp only[List.getElem_toArray,List.getElem_cons_succ,List.getElem_cons_zero,Act.put,YeF,Yf3,Yf4];go_wp2;go_roundw
       case rel=>exact⟨k+1,xs ++ [(x.take j,x.drop (j+1))],by omega,by omega,by simp;omega,by go_num,by rw[Heq.out];simp,by rw[Ys,Yem];exact hown6,Yp (hb5.alloc hB5 _).drew (hown5.alloc _) hgrow Zd⟩
       case measure=>exact Zw
  ·obtain hkE:k=ps.length - 1:=Z7;have hdr:ps.drop k= [ps.getD k []]:=by rw[Yev Z7,Yff Z7];simp[List.getD,show k<ps.length by omega]
   rw[hdr]at heq;clear hdr;generalize ps.getD k []=x at *;have hlt': ¬(k:Int) < ((ps.length - 1:Nat):Int):=Z7;have hltN: ¬k<ps.length - 1:=Z7;have hbW:=hbA.trans (hb.mono hbA.size);rw[hkE]at hg;clear hlt;by_cases h0:x= []
   ·subst h0;rw[Y3m,Yei rfl]at heq;simp only[Yfd]at heq;have Heq:=hid heq;clear heq;have HkE:=hid hkE;clear hkE;go_wp2_with (go_at_call 36;refine(Y1O _).mono ?_;rintro e w3 ⟨rfl,hb3⟩;refine Z13 ?_;intro q0 q1 f0 f1);refine Yej (v:= .tuple #[u4,.agg #[.int .i64 0,.int .i64 (-1)]]) Z2K rfl ?_;refine⟨⟨u4,by rw[Heq.out];rfl,?_,fun a n c h=>Yeu hbA.size (Y6K hown a n c h)⟩,((hbW.trans (hb3.mono hbW.size)).setCell (Ye9 _) _).setCell (Ye9 _) _⟩
    rw[Heq.out];exact Yx (ownsRow_setCell_below (ownsRow_setCell_below (Y2 hown hb3) Zd _) Zd _)
   ·rw[Y3m,Yed h0]at heq;simp only[Yfd]at heq;have Heq:=hid heq;clear heq;have hne:(!x.isEmpty)=true:=by cases x with | nil=>exact absurd rfl h0 | cons a b=>rfl
    have HkE:=hid hkE;clear hkE h0;go_wp2_with fail;refine Yej (v:= .tuple #[.slice none 0 0,.agg #[.int .i64 7,.int .i64 ((ps.length - 1:Nat):Int)]]) Z2K rfl ?_;refine Y2Y (k:=7) (xs:=xs) ?_ Z7 ((hbW.setCell (Ye9 _) _).setCell (Ye9 _) _);rw[Heq.out,HkE.out]
end
section
open Go.Proofs.Tryz
open Go.RowKit
theorem Y2e.only{w w':World}{g:Nat}(h:Y2e w)(k:w.grownBy w' (some g))(hg:0≠g):Y2e w':=by
 have:=Yfu (a:=⟨0,0,none⟩) (k.block 0 h.lt (by intro e;cases e;exact hg rfl));unfold Y2e;rw[this];exact h
theorem Y1c.only{w w':World}{v:Value}{k:Nat}{pl:Int}{g:Nat}(h:Y1c w v k pl)(hk:w.grownBy w' (some g))(hf: ∀n,w.cell? ⟨g,0,none⟩≠some (.int .i64 n)):Y1c w' v k pl:=by
 cases h with
 | nil=>exact .nil
 | bare k h=>exact .bare k h
 | at_ k h pl b h0 h1 =>
  have hb:b≠g:=by rintro rfl;exact hf _ h0
  have e:=hk.block b (Yeb h0) (by intro e;cases e;exact hb rfl);exact .at_ k h pl b ((Yfu (a:=⟨b,0,none⟩) e).trans h0) ((Yfu (a:=⟨b,1,none⟩) e).trans h1)
def Y18(m:Nat)(t s:List UInt8)(Y2N:Bool):List UInt8×PL×Nat×Int:=
 if m<t.length+s.length then([],[],12,-1)else if Y2N then(t ++ s,[],0,-1)else
 ([],if(YG ((t ++ s).length+1) (t ++ s) 0).2.1=0 then(YG ((t ++ s).length+1) (t ++ s) 0).1 else [],(YG ((t ++ s).length+1) (t ++ s) 0).2)
theorem Yb9(m:Nat)(t s:List UInt8)(Y2N:Bool):(Y18 m t s Y2N).1.length≤m:=by
 unfold Y18
 split
 ·exact Z2t
 ·split
  ·exact Zd
  ·exact Z2t
def Ybu(g:Nat)(m:Nat)(R:List UInt8×PL×Nat×Int)(w:World)(e:Ending)(w':World):Prop:=
 (∃v er,e= .returned (.tuple #[v,er])∧Y1c w' er R.2.2.1 R.2.2.2∧PSl w' v R.2.1)∧Blk w' g 215 #[.string (bs R.1),.int .i64 (m:Nat)]∧w.grownBy w' (some g)
theorem gAdd_any(g m:Nat)(t s:List UInt8)(Y2N:Bool)(w:World)(hst:Blk w g 215 #[.string (bs t),.int .i64 (m:Nat)])(hm:m≤20000)(ht:t.length≤m)(hs:s.length≤9223372036854775807)(hg:Y2e w)(hgl:0≠g):
 Calls prog 115 #[.pointer (some ⟨g,0,none⟩),.string (bs s),.bool Y2N] w fun e w'=>Ybu g m (Y18 m t s Y2N) w e w':=by
 have g0:w.cell? ⟨g,0,none⟩=some (.string (bs t)):=hst.cell 0;have g1:w.cell? ⟨g,1,none⟩=some (.int .i64 (m:Nat)):=hst.cell 1;have f0:w.frozen? ⟨g,0,none⟩=false:=hst.free 0;have hgw:=hst.lt;have hsub:IntKind.i64.wrap ((m:Int) - (t.length:Int))=((m - t.length:Nat):Int):=ZZ;have hone:=fun n=>YbP (Y1p w (some g)) n
 by_cases hbig:m<t.length+s.length
 ·have hR:Y18 m t s Y2N=([],[],12,-1):=by rw[Y18,Yei hbig]
  have hbb:decide (((m - t.length:Nat):Int) < (s.length:Int))=true:=Yel Z7;have hbn:m - t.length<s.length:=Z7;rw[hR];clear hR hbig;go_enter func115,ntmps115;go_wp2;go_quiet (fail);go_wp2;go_ret2;refine⟨⟨_,_,rfl,.bare 12 Z7,Y37 _⟩,?_,Y1M (hone nq) 0 _⟩;exact Blk.set (w:=w.drewN nq) hst 0 (.string (bs []))
 ·have hbb:decide (((m - t.length:Nat):Int) < (s.length:Int))=false:=Yeh Z7;have hbn: ¬m - t.length<s.length:=Z7;have hts:t.length+s.length≤m:=Z7;have ha1: ¬9223372036854775807<t.length+s.length:=Z7
  cases Y2N with
  | true =>
   have hR:Y18 m t s true=(t ++ s,[],0,-1):=by rw[Y18,Yed hbig,Yei rfl]
   rw[hR];clear hR hbig;go_enter func115,ntmps115;go_wp2;go_quiet (fail);go_wp2;go_ret2;refine⟨⟨_,_,rfl,.nil,Y37 _⟩,?_,Y1M (hone nq) 0 _⟩;exact Blk.set (w:=w.drewN nq) hst 0 (.string (bs (t ++ s)))
  | false =>
   have hR:Y18 m t s false=([],if(YG ((t ++ s).length+1) (t ++ s) 0).2.1=0 then(YG ((t ++ s).length+1) (t ++ s) 0).1 else [],(YG ((t ++ s).length+1) (t ++ s) 0).2):=by rw[Y18,Yed hbig,Yed Z2t]
   rw[hR];clear hR hbig;have hW:=fun n=>Y1M (hone n) 0 (.string (bs (t ++ s)))
   have c1:=fun n=>hid (Yde (t ++ s) ((w.drewN n).setCell ⟨g,0,none⟩ (.string (bs (t ++ s)))) Zd (hg.only (hW n) hgl))
   unfold Y7F at c1;generalize (if(YG ((t ++ s).length+1) (t ++ s) 0).2.1=0 then(YG ((t ++ s).length+1) (t ++ s) 0).1 else [])=xs at *;generalize (YG ((t ++ s).length+1) (t ++ s) 0).2=kp at *;obtain⟨k,pl⟩:=kp;have hblk:=fun n=>Blk.set (w:=w.drewN n) hst 0 (.string (bs (t ++ s)))
   have Hblk:=hid hblk;have HW:=hid hW;clear hblk hW;go_enter func115,ntmps115;go_wp2;go_quiet (fail);go_wp2_with fail;refine(c1 nq).out.mono ?_;rintro e w1 ⟨⟨v,er,rfl,her,hv,hfr⟩,hb1⟩;have hB1:=(Hblk.out nq).below hb1;have hO1:=Y1h (HW.out nq) hb1;have gg0:w1.cell? ⟨g,0,none⟩=some (.string (bs (t ++ s))):=hB1.cell 0;have gf0:w1.frozen? ⟨g,0,none⟩=false:=hB1.free 0;clear c1 g0 g1 f0 Hblk HW
   go_wp2;go_ret2;have hsz:((w.drewN nq).setCell ⟨g,0,none⟩ (.string (bs (t ++ s)))).heap.size=w.heap.size:=Z3j;refine⟨⟨v,er,rfl,?_,hv.setCell hfr (by rw[hsz];exact hgw) _⟩,hB1.set 0 (.string (bs [])),Y1M hO1 0 _⟩;exact her.only (Y1M (Y1p w1 (some g)) 0 _) (fun n h=>by rw[gg0]at h;cases h)
theorem Y9A{w X:World}{g:Nat}{T:TypeId}{cs:Array Value}(hO:w.grownBy X (some g))(hB:Blk X g T cs)(hE:X.heap.size=w.heap.size):
 w.grownBy (X.alloc (.cells #[.int .i64 0,.int .i64 0] 38)) (some g)∧Blk (X.alloc (.cells #[.int .i64 0,.int .i64 0] 38)) g T cs∧
  Blk (X.alloc (.cells #[.int .i64 0,.int .i64 0] 38)) w.heap.size 38 #[.int .i64 0,.int .i64 0]:=
 ⟨Y5t hO _,(YfE _ _ g hB.lt).trans hB,by have:=Blk.new X 38 #[.int .i64 0,.int .i64 0];rwa [hE]at this⟩
def RAddPost(g:Nat)(m:Nat)(R:List UInt8×PL×Nat×Int)(w:World)(e:Ending)(w':World):Prop:=
 (∃v,e= .returned (.tuple #[v,.agg #[.int .i64 (R.2.2.1:Nat),.int .i64 R.2.2.2]])∧PSl w' v R.2.1∧Y70 w.heap.size v)∧Blk w' g 143 #[.string (bs R.1),.int .i64 (m:Nat)]∧w.grownBy w' (some g)
theorem YcU(g m:Nat)(t s:List UInt8)(Y2N:Bool)(w:World)(hst:Blk w g 143 #[.string (bs t),.int .i64 (m:Nat)])(hm:m≤20000)(ht:t.length≤m)(hs:s.length≤9223372036854755807):
 Calls prog 60 #[.pointer (some ⟨g,0,none⟩),.string (bs s),.bool Y2N] w fun e w'=>RAddPost g m (Y18 m t s Y2N) w e w':=by
 have g0:w.cell? ⟨g,0,none⟩=some (.string (bs t)):=hst.cell 0;have g1:w.cell? ⟨g,1,none⟩=some (.int .i64 (m:Nat)):=hst.cell 1;have f0:w.frozen? ⟨g,0,none⟩=false:=hst.free 0;have hgw:=hst.lt;have ha1: ¬9223372036854775807<t.length+s.length:=Z7;have hgne:g≠w.heap.size:=Z7;have hE:((w.setCell ⟨g,0,none⟩ (.string ⟨#[]⟩)).heap.size)=w.heap.size:=Z3j;have hO1:=Y5t (Y1M (Y1p w (some g)) 0 (.string ⟨#[]⟩)) (.cells #[.int .i64 0,.int .i64 0] 38)
 have hB0:Blk (w.setCell ⟨g,0,none⟩ (.string ⟨#[]⟩)) g 143 #[.string (bs []),.int .i64 (m:Nat)]:=hst.set 0 (.string (bs []));have hB1:Blk ((w.setCell ⟨g,0,none⟩ (.string ⟨#[]⟩)).alloc (.cells #[.int .i64 0,.int .i64 0] 38)) g 143 #[.string (bs []),.int .i64 (m:Nat)]:=(YfE _ _ g (by rw[hE];exact hgw)).trans hB0;have hF1:=Blk.new (w.setCell ⟨g,0,none⟩ (.string ⟨#[]⟩)) 38 #[.int .i64 0,.int .i64 0]
 rw[hE]at hF1;have hz1:w.heap.size< ((w.setCell ⟨g,0,none⟩ (.string ⟨#[]⟩)).alloc (.cells #[.int .i64 0,.int .i64 0] 38)).heap.size:=by simp[hE]
 have HE:=hid hE;clear hE hB0;have HO1:=hid hO1;have HB1:=hid hB1;have HF1:=hid hF1;clear hO1 hB1 hF1;by_cases hbig:m<t.length+s.length
 ·have hR:Y18 m t s Y2N=([],[],12,-1):=by rw[Y18,Yei hbig]
  have hbb:decide ((m:Int) < (t.length:Int) +(s.length:Int))=true:=Yel Z7;rw[hR];clear hR;go_enter func60,ntmps60;go_wp2_with fail;refine(Y27 _ _).mono ?_;rintro e w2 ⟨rfl,hb2⟩;have hO2:=Y1h HO1.out hb2;have hB2:=HB1.out.below hb2;have hF2:=HF1.out.below hb2;have q0:w2.cell? ⟨w.heap.size,0,none⟩=some (.int .i64 0):=hF2.cell 0;have q1:w2.cell? ⟨w.heap.size,1,none⟩=some (.int .i64 0):=hF2.cell 1
  have p0:w2.frozen? ⟨w.heap.size,0,none⟩=false:=hF2.free 0;have p1:w2.frozen? ⟨w.heap.size,1,none⟩=false:=hF2.free 1;clear HO1 HB1 HF1 g0 g1 f0 hz1;go_wp2;refine Yej (v:= .tuple #[.slice none 0 0,.agg #[.int .i64 12,.int .i64 (-1)]]) (by simp[results,results60,go_sem,q0,q1]) rfl ?_;exact⟨⟨_,rfl,Y37 _,Y1P _⟩,(hB2.far (p:=⟨w.heap.size,0,none⟩) hgne _).far (p:=⟨w.heap.size,1,none⟩) hgne _,Y4l (Y4l hO2 (p:=⟨w.heap.size,0,none⟩) (Ye9 _) _) (p:=⟨w.heap.size,1,none⟩) (Ye9 _) _⟩
 ·have hbb:decide ((m:Int) < (t.length:Int) +(s.length:Int))=false:=Yeh Z7;have hbn: ¬m<t.length+s.length:=hbig
  cases Y2N with
  | true =>
   have hR:Y18 m t s true=(t ++ s,[],0,-1):=by rw[Y18,Yed hbig,Yei rfl]
   rw[hR];clear hR;have hX:=Y9A (Y1M (Y1M (Y1p w (some g)) 0 (.string ⟨#[]⟩)) 0 (.string (bs (t ++ s)))) ((hst.set 0 (.string ⟨#[]⟩)).set 0 (.string (bs (t ++ s)))) Z3j;have HX:=hid hX;clear hX HO1 HB1 HF1;go_enter func60,ntmps60;go_wp2_with fail;refine(Y1O _).mono ?_;rintro e w2 ⟨rfl,hb2⟩;have hO2:=Y1h HX.out.1 hb2;have hB2:=HX.out.2.1.below hb2;have hF2:=HX.out.2.2.below hb2
   have q0:w2.cell? ⟨w.heap.size,0,none⟩=some (.int .i64 0):=hF2.cell 0;have q1:w2.cell? ⟨w.heap.size,1,none⟩=some (.int .i64 0):=hF2.cell 1;have p0:w2.frozen? ⟨w.heap.size,0,none⟩=false:=hF2.free 0;have p1:w2.frozen? ⟨w.heap.size,1,none⟩=false:=hF2.free 1;clear HX g0 g1 f0 hz1;go_wp2;refine Yej (v:= .tuple #[.slice none 0 0,.agg #[.int .i64 0,.int .i64 (-1)]]) (by simp[results,results60,go_sem,q0,q1]) rfl ?_
   exact⟨⟨_,rfl,Y37 _,Y1P _⟩,(hB2.far (p:=⟨w.heap.size,0,none⟩) hgne _).far (p:=⟨w.heap.size,1,none⟩) hgne _,Y4l (Y4l hO2 (p:=⟨w.heap.size,0,none⟩) (Ye9 _) _) (p:=⟨w.heap.size,1,none⟩) (Ye9 _) _⟩
  | false =>
   have hR:Y18 m t s false=([],if(YG ((t ++ s).length+1) (t ++ s) 0).2.1=0 then(YG ((t ++ s).length+1) (t ++ s) 0).1 else [],(YG ((t ++ s).length+1) (t ++ s) 0).2):=by rw[Y18,Yed hbig,Yed Z2t]
   rw[hR];clear hR;have hX:=Y9A (Y1M (Y1p w (some g)) 0 (.string ⟨#[]⟩)) (hst.set 0 (.string ⟨#[]⟩)) Z3j;have c1:=fun w=>hid (Y9M (t ++ s) w Zd)
   unfold YaJ YS at c1;generalize (if(YG ((t ++ s).length+1) (t ++ s) 0).2.1=0 then(YG ((t ++ s).length+1) (t ++ s) 0).1 else [])=xs at *;generalize (YG ((t ++ s).length+1) (t ++ s) 0).2=kp at *;obtain⟨k,pl⟩:=kp;simp only at *;have HX:=hid hX;clear hX HO1 HB1 HF1;go_enter func60,ntmps60;go_wp2_with fail;refine(c1 _).out.mono ?_;rintro e w2 ⟨⟨v,rfl,hv,hfr⟩,hb2⟩;have hfr:Y70 (w.heap.size+1) v:=fun a n c h=>Yeu Z3j (hfr a n c h)
   have hO2:=Y1h HX.out.1 hb2;have hB2:=HX.out.2.1.below hb2;have hF2:=HX.out.2.2.below hb2;have q0:w2.cell? ⟨w.heap.size,0,none⟩=some (.int .i64 0):=hF2.cell 0;have q1:w2.cell? ⟨w.heap.size,1,none⟩=some (.int .i64 0):=hF2.cell 1;have p0:w2.frozen? ⟨w.heap.size,0,none⟩=false:=hF2.free 0;have p1:w2.frozen? ⟨w.heap.size,1,none⟩=false:=hF2.free 1;clear HX g0 g1 f0 hz1;clear c1;go_wp2;refine Yej (v:= .tuple #[v,.agg #[.int .i64 k,.int .i64 pl]]) (by simp[results,results60,go_sem,q0,q1]) rfl ?_
   refine⟨⟨_,rfl,?_,fun a n c h=>Nat.le_of_succ_le (hfr a n c h)⟩,(hB2.far (p:=⟨w.heap.size,0,none⟩) hgne _).far (p:=⟨w.heap.size,1,none⟩) hgne _,Y4l (Y4l hO2 (p:=⟨w.heap.size,0,none⟩) (Ye9 _) _) (p:=⟨w.heap.size,1,none⟩) (Ye9 _) _⟩;exact(hv.setCell hfr (p:=⟨w.heap.size,0,none⟩) Z2t _).setCell hfr (p:=⟨w.heap.size,1,none⟩) Z2t _
end
end Go.Proofs.YtfadikchijkcfaaGreatDoor
