/- Slices of pairs of texts (pairs, users): how they read; what is wrong with pairs. -/
import Derived.Test.YtfadikchijkcfaaGreatDoorParsePure
import Derived.Test.YtfadikchijkcfaaGreatDoorAhsIn
import Derived.Test.YtfadikchijkcfaaGreatDoorAhs
import Derived.Test.YtfadikchijkcfaaGreatDoorPUint
import Derived.Deep.SlicePairs
import Derived.OpenShut
import Derived.Deep.QuietTactic
import Derived.BigQuiet
set_option linter.unusedVariables false
set_option linter.unusedSectionVars false
set_option linter.unusedSimpArgs false
set_option maxRecDepth 100000
set_option maxHeartbeats 4000000
namespace Go.Proofs.YtfadikchijkcfaaGreatDoor
section
open Go.RowKit
abbrev PL:=List (List UInt8×List UInt8)
def Y0(xs:PL):List Value:=xs.flatMap fun x=> [.string (bs x.1),.string (bs x.2)]
theorem Yr(xs:PL):(Y0 xs).length=xs.length * 2:=by
 induction xs with
 | nil=>rfl
 | cons x xs ih=>simp only[Y0,YfK,Yem,YeH,YeV]at ih ⊢;omega
theorem Ys(xs:PL)(x:List UInt8×List UInt8):Y0 (xs ++ [x])=Y0 xs ++ [.string (bs x.1),.string (bs x.2)]:=by simp[Y0]
theorem YE(xs ys:PL):Y0 (xs ++ ys)=Y0 xs ++ Y0 ys:=by simp[Y0]
theorem Y1r(xs:PL): ∀u∈Y0 xs,u.oneCell'=true:=by
 intro u hu;simp only[Y0,List.mem_flatMap]at hu;obtain⟨x,_,hx⟩:=hu;simp at hx;rcases hx with rfl | rfl<;>rfl
theorem Y48(xs:PL)(k:Nat)(h:k<xs.length):(Y0 xs)[2 * k]?=some (.string (bs (xs.getD k ([],[])).1))∧(Y0 xs)[2 * k+1]?=some (.string (bs (xs.getD k ([],[])).2)):=by
 induction xs generalizing k with
 | nil=>simp at h
 | cons x xs ih =>
  cases k with
  | zero=>simp[Y0]
  | succ k =>
   have:=ih k Z3o;have e:Y0 (x :: xs)= .string (bs x.1) :: .string (bs x.2) :: Y0 xs:=rfl;rw[e];simp only[show 2 * (k+1)=2 * k+1+1 by omega,YfW,List.getD_cons_succ];exact this
def PSl(w:World)(v:Value)(l:PL):Prop:=Sl w v 2 l.length (Y0 l)
theorem PSl.below{w w':World}{v:Value}{l:PL}(h:PSl w v l)(hb:Below w.heap.size w w'):PSl w' v l:=Sl.below h (by omega) hb
def PBd(l:PL):Prop:=l.length≤9223372036854775807∧ ∀k,(l.getD k ([],[])).1.length≤9223372036854775807∧(l.getD k ([],[])).2.length≤9223372036854775807
theorem PSl.open_{w:World}{v:Value}{l:PL}(h:PSl w v l):(l= []∧ ∃a c,v= .slice a 0 c)∨
 (0<l.length∧ ∃b o c,v= .slice (some ⟨b,o,none⟩) l.length c∧b<w.heap.size∧ ∀k,k<l.length→w.cell? ⟨b,o+k * 2,none⟩=some (.string (bs (l.getD k ([],[])).1))∧w.cell? ⟨b,o+k * 2+1,none⟩=some (.string (bs (l.getD k ([],[])).2))):=by
 obtain⟨a,c,rfl,hl,hc⟩:=h;by_cases h0:l.length=0
 ·exact .inl ⟨YeK h0,a,c,by rw[h0]⟩
 ·obtain⟨b,o,rfl,hd⟩:=hc.resolve_left h0
  have hcell: ∀k,k<l.length→w.cell? ⟨b,o+k * 2,none⟩=some (.string (bs (l.getD k ([],[])).1))∧w.cell? ⟨b,o+k * 2+1,none⟩=some (.string (bs (l.getD k ([],[])).2)):=by
   intro k hk;obtain⟨e1,e2⟩:=Y48 l k hk;exact Z53
  exact .inr ⟨by omega,b,o,c,rfl,Yeb (hcell 0 Z7).1,hcell⟩
theorem Yx{w:World}{base:Nat}{e:TypeId}{v:Value}{l:PL}(h:w.ownsRow base e 2 v l.length (Y0 l)):PSl w v l:=Y3x h
def Y70(B:Nat)(v:Value):Prop:= ∀a n c,v= .slice (some a) n c→B≤a.block
theorem Y1P(B:Nat):Y70 B (.slice none 0 0):=fun a n c h=>by cases h
theorem Y6K{w:World}{base:Nat}{e:TypeId}{size n:Nat}{v:Value}{xs:List Value}(h:w.ownsRow base e size v n xs):Y70 base v:=by
 rcases h.2 with ⟨rfl,rfl⟩ | ⟨g,cap,cur,rfl,hbg,_⟩
 ·exact Y1P _
 ·intro a n c h
  cases h
  exact hbg
theorem PSl.setCell{B:Nat}{w:World}{v:Value}{l:PL}(h:PSl w v l)(hf:Y70 B v){p:Addr}(hp:p.block<B)(u:Value):PSl (w.setCell p u) v l:=by
 obtain⟨a,c,rfl,hl,hc⟩:=h;refine⟨a,c,rfl,hl,?_⟩;rcases hc with h0 | ⟨b,o,rfl,hd⟩
 ·exact Z44
 ·refine .inr ⟨b,o,rfl,fun j u' hu=> ?_⟩;have:=hf _ _ _ rfl;rw[World.cell?_setCell_other _ _ _ _ (by intro e;subst e;simp at hp this;exact Z7)];exact hd j u' hu
theorem Y37(w:World):PSl w (.slice none 0 0) []:=Y2g w 2
def Y3q:Value→List UInt8 | .string s=>s.data.toList | _=> []
def Y2b:PL→Nat→Nat×Int
 | [],_=>(0,-1)
 | p :: l,i=>if Y2G p.1=false then(5,i)else if YV p.2=false then(3,i)else Y2b l (i+1)
def Yc(l:PL):Nat×Int:=if 60<l.length then(4,-1)else Y2b l 0
theorem Y3E{α:Type}(l:List α)(k:Nat)(d:α)(h:k<l.length):l.drop k=l.getD k d :: l.drop (k+1):=by
 rw[Yev h];simp[List.getD,h]
theorem Y5L(l:PL)(k:Nat)(h:k<l.length):Y2b (l.drop k) k=if Y2G (l.getD k ([],[])).1=false then(5,(k:Int))else if YV (l.getD k ([],[])).2=false then(3,(k:Int))else Y2b (l.drop (k+1)) (k+1):=by
 rw[Y3E l k ([],[]) h,Y2b]
theorem Z1x{P Q:Prop}(k:Q)(h:Q→P:=by
 obtain⟨c0,c1⟩:=Hcell.out k hlt
 have g0:=(hb.cell (p:=⟨b,o+k * 2,none⟩) hbl).trans c0
 have g1:=(hb.cell (p:=⟨b,o+k * 2+1,none⟩) hbl).trans c1
 refine fun z_=>?_
 revert g1;revert g0;revert c1;revert c0
 exact z_):P:=h k
theorem Z3g{P:Prop}(h:P:=by
 go_wp2
 refine Yf7 1 ?_
 rw[Yf5]
 go_wp2
 go_ret
 exact Z2D):P:=h
theorem Z4s{P:Prop}(h:P:=by
 rw[Yr]
 exact Z7):P:=h
end
section
open Go.Proofs.Tryz
open Go.RowKit
def Y2q:PL→List UInt8→List UInt8×Bool
 | [],_=>([],false)
 | p :: l,key=>if p.1=key then(p.2,true)else Y2q l key
theorem Y7u(l:PL)(key:List UInt8)(k:Nat)(h:k<l.length):Y2q (l.drop k) key=if(l.getD k ([],[])).1=key then((l.getD k ([],[])).2,true)else Y2q (l.drop (k+1)) key:=by
 rw[Y3E l k ([],[]) h,Y2q]
def Y3d(l:PL)(key:List UInt8)(w:World)(e:Ending)(w':World):Prop:=e= .returned (.tuple #[.string (bs (Y2q l key).1),.bool (Y2q l key).2])∧Below w.heap.size w w'
def RPFind(l:PL)(key:List UInt8)(w:World)(i:Value)(wr:World):Prop:=
 ∃k:Nat,k≤l.length∧i= .int .i64 (k:Nat)∧Y2q l key=Y2q (l.drop k) key∧Below w.heap.size w wr
theorem Z4i{P:Prop}(h:P:=by
 ·exact Z4E):P:=h
theorem Z4E{P:Prop}(h:P:=by
 obtain rfl:k=l.length:=Z7
 go_wp2
 go_ret2
 refine⟨?_,hb⟩
 rw[heq,YeX]
 rfl):P:=h
theorem Y5a(v:Value)(l:PL)(key:List UInt8)(w:World)(h:PSl w v l)(hn:l.length≤9223372036854775807):
 Calls prog 38 #[v,.string (bs key)] w fun e w'=>Y3d l key w e w':=by
 rcases h.open_ with ⟨rfl,a,c,rfl⟩ | ⟨h0,b,o,c,rfl,hbl,hcell⟩
 ·clear h;go_enter func38,ntmps38;go_wp2;refine Yf7 1 ?_;rw[Yf5];go_wp2;go_ret2;exact Z2D
 clear h;have Hcell:=hid hcell;clear hcell;go_enter func38,ntmps38;go_wp2;go_loopw [10] (fun i wr=>RPFind l key w i wr) (fun i _=>l.length - (intOf i).toNat)
 case atStart=>exact Z1g
 case round =>
  obtain⟨k,hk,rfl,heq,hb⟩:=hrel;have hB:=hb.size;by_cases hlt:k<l.length
  ·refine Z1x ?_;intro c0 c1 g0 g1;rw[Y7u l key k hlt]at heq;clear c0 c1;generalize l.getD k ([],[])=x at *;obtain⟨x1,x2⟩:=x;simp only at *;by_cases hkey:x1=key
   ·rw[Yei hkey]at heq;subst hkey;have Heq:=hid heq;clear heq;go_wp2;go_ret2;exact⟨by rw[Heq.out];rfl,hb.alloc hB _⟩
   ·rw[Yed hkey]at heq;have hbe:(x1 == key)=false:=by simpa using hkey
    have Heq:=hid heq;clear heq;go_wp2;go_roundw
    case rel=>exact⟨k+1,by omega,by go_num,Heq.out,hb.alloc hB _⟩
    case measure=>exact Zw
  exact Z4i
theorem YcV(v:Value)(l:PL)(key:List UInt8)(w:World)(h:PSl w v l)(hn:l.length≤9223372036854775807):
 Calls prog 142 #[v,.string (bs key)] w fun e w'=>Y3d l key w e w':=by
 rcases h.open_ with ⟨rfl,a,c,rfl⟩ | ⟨h0,b,o,c,rfl,hbl,hcell⟩
 ·clear h;go_enter func142,ntmps142;go_wp2;refine Yf7 1 ?_;rw[Yf5];go_wp2;go_ret2;exact Z2D
 clear h;have Hcell:=hid hcell;clear hcell;go_enter func142,ntmps142;go_wp2;go_loopw [9] (fun i wr=>RPFind l key w i wr) (fun i _=>l.length - (intOf i).toNat)
 case atStart=>exact Z1g
 case round =>
  obtain⟨k,hk,rfl,heq,hb⟩:=hrel;have hB:=hb.size;by_cases hlt:k<l.length
  ·refine Z1x ?_;intro c0 c1 g0 g1;rw[Y7u l key k hlt]at heq;clear c0 c1;generalize l.getD k ([],[])=x at *;obtain⟨x1,x2⟩:=x;simp only at *;by_cases hkey:x1=key
   ·rw[Yei hkey]at heq;subst hkey;have Heq:=hid heq;clear heq;go_wp2;go_ret2;exact⟨by rw[Heq.out];rfl,hb⟩
   ·rw[Yed hkey]at heq;have hbe:(x1 == key)=false:=by simpa using hkey
    have Heq:=hid heq;clear heq;go_wp2;go_roundw
    case rel=>exact⟨k+1,by omega,by go_num,Heq.out,hb⟩
    case measure=>exact Zw
  exact Z4i
end
end Go.Proofs.YtfadikchijkcfaaGreatDoor
