/- What is wrong with pairs, by the program. -/
import Derived.Test.YtfadikchijkcfaaGreatDoorParsePure
import Derived.Test.YtfadikchijkcfaaGreatDoorPairFind
import Derived.Maps.AppendAt
import Derived.Deep.QuietTactic
import Derived.BigQuiet
set_option linter.unusedVariables false
set_option linter.unusedSectionVars false
set_option linter.unusedSimpArgs false
set_option maxRecDepth 100000
set_option maxHeartbeats 4000000
namespace Go.Proofs.YtfadikchijkcfaaGreatDoor
section
open Go.Proofs.Tryz
open Go.RowKit
theorem Y1I{w:World}{base:Nat}{e:TypeId}{size n:Nat}{v:Value}{xs:List Value}(h:w.ownsRow base e size v n xs): ∃A cap,v= .slice A n cap:=by
 rcases h.2 with ⟨rfl,rfl⟩ | ⟨g,cap,cur,rfl,_⟩
 ·exact⟨_,_,rfl⟩
 ·exact⟨_,_,rfl⟩
theorem Y5m{P:Program}(t e:TypeId)(ht:P.underlying t=some (.slice e))(size:Nat)(hsz: ∀w,(sizeOf e).run P w= .ok size w)(g o n cap k:Nat)(hk:k≤n)(hkc:k<cap)(w:World):
 (Instr.slice t (.slice (some ⟨g,o,none⟩) n cap) (some (.int .i64 (k:Int))) none none).run P w= .ok (.slice (some ⟨g,o+k * size,none⟩) (n - k) (cap - k)) w:=by
 have he:P.elem t=e:=by simp[Program.elem,ht]
 rw[run_slice_l w t _ n cap (by rw[he];exact ht) .i64 k Z7 Z7,he,hsz];simp only[Result.andThen,sliced];rw[Yed Z7];by_cases h0:k * size=0<;>simp[Addr.add,h0]
theorem YcG(g n cap:Nat)(h:n+1≤cap)(w:World):(Instr.slice 27 (.slice (some ⟨g,0,none⟩) (n+1) cap) (some (.int .i64 (n:Int))) none none).run prog w= .ok (.slice (some ⟨g,n * 2,none⟩) 1 (cap - n)) w:=by
 have hsl:=Y5m (P:=prog) 27 78 underlying27 2 (by intro w;kernel_rfl) g 0 (n+1) cap n Z7 Z7 w
 rwa [Nat.add_sub_cancel_left,YfP]at hsl
theorem Ybd{w:World}{v:Value}{k:Nat}{pl:Int}(h:Y1c w v k pl)(hk:0<k)(hp:0≤pl): ∃b,v= .iface 120 (.pointer (some ⟨b,0,none⟩)):=by
 generalize hq:pl=q at h
 cases h with
 | nil=>omega
 | bare k h=>omega
 | at_ k h pl b h0 h1=>exact⟨b,rfl⟩
theorem Y4L{w:World}{v:Value}{pl:Int}(h:Y1c w v 0 pl):v= .nilIface:=by
 generalize hk:0=k at h
 cases h<;>first | rfl | omega
theorem Y5c(w:World)(k:Nat)(pl:Int)(hk:0<k):Y1c (w.alloc (.cells #[.int .i64 k,.int .i64 pl] 122)) (.iface 120 (.pointer (some ⟨w.heap.size,0,none⟩))) k pl:=
 .at_ k hk pl w.heap.size (by simp) (by simp)
def Y2B(l:PL)(w:World)(e:Ending)(w':World):Prop:=(∃er,e= .returned er∧Y1c w' er (Yc l).1 (Yc l).2)∧Below w.heap.size w w'
def RPRight(l:PL)(w:World)(i:Value)(wr:World):Prop:=
 ∃k:Nat,k≤l.length∧i= .int .i64 (k:Nat)∧Yc l=Y2b (l.drop k) k∧Below w.heap.size w wr
theorem Y22(v:Value)(l:PL)(w:World)(h:PSl w v l)(hbd:PBd l):
 Calls prog 37 #[v] w fun e w'=>Y2B l w e w':=by
 obtain⟨hn,hlen⟩:=hbd;by_cases h60:60<l.length
 ·have hR:Yc l=(4,-1):=by rw[Yc,Yei h60]
  have HR:=hid hR;clear hR;rcases h.open_ with ⟨rfl,_⟩ | ⟨h0,b,o,c,rfl,_,_⟩
  ·simp at h60
  clear h;have h60':decide ((60:Int) < (l.length:Int))=true:=Yel Z7;go_enter func37,ntmps37;go_wp2;go_ret;refine⟨⟨_,rfl,?_⟩,Yea _ _⟩;rw[HR.out];exact .bare 4 Z7
 have hR:Yc l=Y2b l 0:=by rw[Yc,Yed h60]
 rcases h.open_ with ⟨rfl,a,c,rfl⟩ | ⟨h0,b,o,c,rfl,hbl,hcell⟩
 ·clear h hR hlen;go_enter func37,ntmps37;exact Z46
 clear h;have Hcell:=hid hcell;clear hcell;have HR:=hid hR;clear hR;have Hlen:=hid hlen;clear hlen;have h60':decide ((60:Int) < (l.length:Int))=false:=Yeh Z7;go_enter func37,ntmps37;go_wp2;go_loopw [11] (fun i wr=>RPRight l w i wr) (fun i _=>l.length - (intOf i).toNat)
 case atStart=>exact⟨0,by omega,rfl,by rw[HR.out];rfl,Yea _ _⟩
 case round =>
  obtain⟨k,hk,rfl,heq,hb⟩:=hrel;have hB:=hb.size;by_cases hlt:k<l.length
  ·refine Z1x ?_;intro c0 c1 g0 g1;obtain⟨hd0,hd1⟩:=Hlen.out k;rw[Y5L l k hlt]at heq;clear c0 c1;generalize l.getD k ([],[])=x at *;obtain⟨x1,x2⟩:=x;simp only at *;have c1:=fun w=>hid (key_any x1 w hd0)
   have c2:=fun w=>hid (Y8P x2 w hd1)
   cases hk1:Y2G x1 with
   | false =>
    rw[hk1]at c1;rw[hk1,Yei rfl]at heq;have Heq:=hid heq;clear heq hk1;go_wp2_with (go_at_call 83;refine(c1 _).out.mono ?_;rintro e w1 ⟨rfl,rfl⟩);go_ret;refine⟨⟨_,rfl,?_⟩,(hb.alloc hB _).alloc Zd _⟩;rw[Heq.out];exact .at_ 5 Z7 k (wr.heap.size+1) Z2t Z2t
   | true =>
    rw[hk1]at c1;rw[hk1,Yed Z2t]at heq
    cases hv2:YV x2 with
    | false =>
     rw[hv2]at c2;rw[hv2,Yei rfl]at heq;have Heq:=hid heq;clear heq hk1 hv2;go_wp2_with first
      | (go_at_call 83;refine(c1 _).out.mono ?_;rintro e w1 ⟨rfl,rfl⟩)
      | (go_at_call 84;refine(c2 _).out.mono ?_;rintro e w1 ⟨rfl,rfl⟩)
     go_ret;refine⟨⟨_,rfl,?_⟩,(hb.alloc hB _).alloc Zd _⟩;rw[Heq.out];exact .at_ 3 Z7 k (wr.heap.size+1) Z2t Z2t
    | true =>
     rw[hv2]at c2;rw[hv2,Yed Z2t]at heq;have Heq:=hid heq;clear heq hk1 hv2;go_wp2_with first
      | (go_at_call 83;refine(c1 _).out.mono ?_;rintro e w1 ⟨rfl,rfl⟩)
      | (go_at_call 84;refine(c2 _).out.mono ?_;rintro e w1 ⟨rfl,rfl⟩)
     go_roundw
     case rel=>exact⟨k+1,by omega,by go_num,Heq.out,hb.alloc hB _⟩
     case measure=>exact Zw
  ·obtain rfl:k=l.length:=Z7;go_wp2;go_ret;refine⟨⟨_,rfl,?_⟩,hb⟩;rw[heq,YeX];exact .nil
theorem Z3r{P Q:Prop}(k:Q)(h:Q→P:=by
 have hlt6:wr.heap.size<W6.heap.size:=Z1s
 refine fun z_=>?_
 revert hlt6
 exact z_):P:=h k
end
section
open Go.Proofs.Tryz
open Go Go.RowKit
theorem infoPr:(prog.info? 78).map (fun i=>(i.zero,i.size,i.bytes))=some (some (.agg #[.string ⟨#[]⟩,.string ⟨#[]⟩]),2,32):=by kernel_rfl
theorem eqnilP(W:World)(a:Option Addr)(n c:Nat):(binOp .eql 27 (.slice a n c) (.slice none 0 0)).run prog W= .ok (.bool a.isNone) W:=by
 cases a<;>rfl
theorem Y9u(v:Value)(l:PL)(w:World)(h:PSl w v l)(hn:l.length≤1048576):
 Calls prog 41 #[v] w fun e w'=>(∃v',e= .returned v'∧w'.ownsRow w.heap.size 78 2 v' l.length (Y0 l))∧Below w.heap.size w w':=by
 have hF:=h;obtain⟨sa,sc,rfl,hcl,hcc⟩:=hF
 cases sa with
 | none =>
  have h0:l.length=0:=by
   rcases hcc with h | ⟨b,off,h,_⟩
   ·exact h
   ·cases h
  have hl:l= []:=YeL.1 h0;subst hl;have he:=fun W=>eqnilP W none 0 sc
  simp only[Option.isNone]at he;clear h hcc hcl;go_enter func41,ntmps41;go_wp2;go_ret;exact⟨⟨_,rfl,by simpa[Y0]using YeD _ _ _ _⟩,Yea _ _⟩
 | some a =>
  have hown0:(w.alloc (.cells #[] 78)).ownsRow w.heap.size 78 2 (.slice (some ⟨w.heap.size,0,none⟩) 0 0) 0 []:=
   ⟨rfl,.inr ⟨w.heap.size,0,#[],rfl,Ye9 _,YeC _ _,Ye9 _,by unfold maxLen;omega,rfl,rfl⟩⟩
  have hA:=(Yea w.heap.size w).alloc (Ye9 _) (.cells #[] 78)
  have hnews: ∀j u,(Y0 l)[j]?=some u→(w.alloc (.cells #[] 78)).cell? (a.add j)=some u:=by
   intro j u hu;rcases hcc with h0 | ⟨b,off,ha,hc⟩
   ·have:l= []:=YeL.1 h0;subst this;simp[Y0]at hu
   ·cases ha
    rw[show(⟨b,off,none⟩:Addr).add j=⟨b,off+j,none⟩ by unfold Addr.add;split<;>simp_all];exact(hA.cell (p:=⟨b,off+j,none⟩) (Yeb (hc j u hu))).trans (hc j u hu)
  have HO:=hid hown0;have HN:=hid hnews;have HA:=hid hA;have he:=fun W=>eqnilP W (some a) l.length sc
  simp only[Option.isNone]at he;clear h hcc hcl hown0 hnews hA;go_enter func41,ntmps41;go_wp2_with (at_builtin;refine Yj rfl (.tmp 5) (.tmp 6) 27 rfl w.heap.size 78 (.agg #[.string ⟨#[]⟩,.string ⟨#[]⟩]) 2 32 underlying27 infoPr rfl Z16 _ 0 [] rfl HO.out a l.length sc (Y0 l) rfl (Yr l) HN.out (Y1r l) ZS Z7 Z2t ?_;intro v' w' hown hgrow _);go_ret
  refine⟨⟨_,rfl,by simpa using hown⟩,Yp HA.out HO.out hgrow Z2t⟩
end
section
open Go Go.RowKit
def Y7l(l:PL)(n:List UInt8):Nat:=l.findIdx fun u=>u.1 == n
def Y3X(l:PL)(n:List UInt8)(k:Nat):Prop:= ∀j,j<k→(l.getD j ([],[])).1≠n
theorem posU_at(l:PL)(n:List UInt8)(k:Nat)(hk:k<l.length)(h:(l.getD k ([],[])).1=n)(ha:Y3X l n k):Y7l l n=k:=by
 unfold Y7l;rw[List.findIdx_eq hk];refine⟨?_,fun j hj=> ?_⟩
 ·rw[←h];simp[List.getD,Yec hk]
 ·have:=ha j hj;simp only[List.getD,Yec (show j<l.length from Z7),Yf2]at this;exact Yen.2 this
theorem Yd5(l:PL)(n:List UInt8)(ha:Y3X l n l.length):Y7l l n=l.length:=by
 unfold Y7l;rw[List.findIdx_eq_length];intro x hx;obtain⟨j,hj,rfl⟩:=List.getElem_of_mem hx;have:=ha j hj;simp only[List.getD,Yec hj,Yf2]at this;exact Yen.2 this
theorem Y3X.step{l:PL}{n:List UInt8}{k:Nat}(h:Y3X l n k)(hk:(l.getD k ([],[])).1≠n):Y3X l n (k+1):=fun j hj=>by
 rcases YeU j k with h' | h'
 ·exact h j h'
 ·obtain rfl:j=k:=by omega
  exact hk
theorem Y8a(l:PL)(n:List UInt8):Y3X l n 0:=fun j hj=>absurd hj (by omega)
def RUsr(l:PL)(n:List UInt8)(W:World)(i:Value)(wr:World):Prop:=
 ∃k:Nat,k≤l.length∧i= .int .i64 (k:Nat)∧Hid (Y3X l n k)∧Below W.heap.size W wr
def idxU(l:PL)(n:List UInt8):Int:=if Y7l l n<l.length then(Y7l l n:Nat)else -1
end
section
open Go Go.RowKit
structure Y1(S:Nat→Prop)(a w:World):Prop where
 os:w.os=a.os
 tape:w.tape=a.tape
 output:w.output=a.output
 size:a.heap.size≤w.heap.size
 block: ∀k,k<a.heap.size→ ¬S k→w.heap[k]?=a.heap[k]?
theorem Y1.refl(S:Nat→Prop)(a:World):Y1 S a a:=⟨rfl,rfl,rfl,Ye9 _,fun _ _ _=>rfl⟩
theorem Y1.below{S:Nat→Prop}{a w w':World}(h:Y1 S a w)(hb:Below w.heap.size w w'):Y1 S a w':=
 ⟨hb.os.trans h.os,hb.tape.trans h.tape,hb.output.trans h.output,Yeu h.size hb.size,fun k hk hn=>(hb.block k (Yee hk h.size)).trans (h.block k hk hn)⟩
theorem Y1.drew{S:Nat→Prop}{a w:World}(h:Y1 S a w):Y1 S a w.drew:=h.below (Yea _ _).drew
theorem Y1.only{S:Nat→Prop}{a w w':World}{r:Option Nat}(h:Y1 S a w)(hg:w.grownBy w' r)(hr: ∀g,r=some g→S g∨a.heap.size≤g):Y1 S a w':=
 ⟨hg.os.trans h.os,hg.tape.trans h.tape,hg.output.trans h.output,Yeu h.size hg.size,fun k hk hn=>(hg.block k (Yee hk h.size) (by
   intro e
   rcases hr k e.symm with h1 | h1
   ·exact hn h1
   ·omega)).trans (h.block k hk hn)⟩
theorem Y1.set{S:Nat→Prop}{a w:World}(h:Y1 S a w)(p:Addr)(u:Value)(hp:S p.block∨a.heap.size≤p.block):Y1 S a (w.setCell p u):=
 ⟨h.os,h.tape,h.output,by simpa[World.setCell]using h.size,fun k hk hn=>(YeN w p u k (by
   rintro rfl
   rcases hp with h1 | h1
   ·exact hn h1
   ·omega)).trans (h.block k hk hn)⟩
theorem Y1.cell{S:Nat→Prop}{a w:World}(h:Y1 S a w){b o:Nat}{u:Value}(hc:a.cell? ⟨b,o,none⟩=some u)(hn: ¬S b):w.cell? ⟨b,o,none⟩=some u:=
 (Yfu (a:=⟨b,o,none⟩) (h.block b (Yeb hc) hn)).trans hc
theorem Y1.blk{S:Nat→Prop}{a w:World}(h:Y1 S a w){b:Nat}{T:TypeId}{cs:Array Value}(hc:Blk a b T cs)(hn: ¬S b):Blk w b T cs:=(h.block b hc.lt hn).trans hc
theorem Y1.toBelow{S:Nat→Prop}{a w:World}(h:Y1 S a w){B:Nat}(hS: ∀k,S k→B≤k)(hB:B≤a.heap.size):Below B a w:=
 ⟨h.os,h.tape,h.output,h.size,fun k hk=>h.block k (by omega) (fun hs=>by have:=hS k hs;omega)⟩
theorem Y1.mono{S T:Nat→Prop}{a w:World}(h:Y1 S a w)(hst: ∀k,S k→T k):Y1 T a w:=⟨h.os,h.tape,h.output,h.size,fun k hk hn=>h.block k hk (fun hs=>hn (hst k hs))⟩
theorem Y1.trans{S:Nat→Prop}{a b c:World}(h:Y1 S a b){T:Nat→Prop}(k:Y1 T b c)(hT: ∀i,T i→S i∨a.heap.size≤i):Y1 S a c:=
 ⟨k.os.trans h.os,k.tape.trans h.tape,k.output.trans h.output,Yeu h.size k.size,fun i hi hn=>(k.block i (Yee hi h.size) (fun ht=>by
   rcases hT i ht with h1 | h1
   ·exact hn h1
   ·omega)).trans (h.block i hi hn)⟩
def Y3h(v:Value)(l:PL)(S:Nat→Prop):Prop:=l.length=0∨ ∃b o n c,v= .slice (some ⟨b,o,none⟩) n c∧ ¬S b
theorem PSl.kept{S:Nat→Prop}{a w:World}{v:Value}{l:PL}(h:PSl a v l)(hf:Y3h v l S)(hk:Y1 S a w):PSl w v l:=by
 obtain⟨x,cap,rfl,hl,hc⟩:=h;refine⟨x,cap,rfl,hl,?_⟩;rcases hf with h0 | ⟨b',o',n',c',hv,hn⟩
 ·exact Z44
 ·cases hv
  rcases hc with h0 | ⟨b,o,hx,hd⟩
  ·exact Z44
  ·cases hx
   exact .inr ⟨b',o',rfl,fun j u hu=>hk.cell (hd j u hu) hn⟩
theorem Y3h.new{v:Value}{l:PL}{w:World}(h:PSl w v l){S:Nat→Prop}(hS: ∀k,S k→w.heap.size≤k):Y3h v l S:=by
 obtain⟨x,cap,rfl,hl,hc⟩:=h;rcases hc with h0 | ⟨b,o,rfl,hd⟩
 ·exact Z44
 ·by_cases hz:l.length=0
  ·exact .inl hz
  ·refine .inr ⟨b,o,_,_,rfl,fun hs=> ?_⟩;have h1:=hS b hs;have hlt:0< (Y0 l).length:=Z4s;have h2:b<w.heap.size:=Yeb (hd 0 _ (Yec hlt));exact Z7
theorem Y3h.lt{v:Value}{l:PL}{w:World}(h:PSl w v l):l.length=0∨ ∃b o n c,v= .slice (some ⟨b,o,none⟩) n c∧b<w.heap.size:=by
 obtain⟨x,cap,rfl,hl,hc⟩:=h;rcases hc with h0 | ⟨b,o,rfl,hd⟩
 ·exact Z44
 ·by_cases hz:l.length=0
  ·exact .inl hz
  ·have hlt:0< (Y0 l).length:=Z4s;exact .inr ⟨b,o,_,_,rfl,Yeb (hd 0 _ (Yec hlt))⟩
theorem Y3h.mono{v:Value}{l:PL}{S T:Nat→Prop}(h:Y3h v l S)(hst: ∀k,T k→S k):Y3h v l T:=by
 rcases h with h0 | ⟨b,o,n,c,hv,hn⟩
 ·exact Z44
 ·exact .inr ⟨b,o,n,c,hv,fun ht=>hn (hst b ht)⟩
theorem Y24{w w':World}{base:Nat}{e:TypeId}{size n:Nat}{v:Value}{xs:List Value}(h:w.ownsRow base e size v n xs){r:Option Nat}(hg:w.grownBy w' r)(hr: ∀g,v.ownBlock=some g→r≠some g):w'.ownsRow base e size v n xs:=
 h.kept (row:=r) hg (by
  cases hv:v.ownBlock with
  | none=>exact .inl rfl
  | some g=>exact .inr (fun e=>hr g hv e.symm))
theorem Y23{w:World}{base:Nat}{e:TypeId}{size n:Nat}{v:Value}{xs:List Value}(h:w.ownsRow base e size v n xs)(g i:Nat)(u:Value)(hr:v.ownBlock≠some g):(w.setCell ⟨g,i,none⟩ u).ownsRow base e size v n xs:=
 Y24 h (Y1M (Y1p w (some g)) i u) (fun k hk e=>hr (by rw[hk];exact e.symm))
theorem YY{P:Program}{ops:Array Oper}{rest:List Oper}{o:Oper}{a:Act}{w:World}{Q:Exit→Act→World→Prop}
 (hgd:o.guard=none) (s x:Operand) (t:TypeId) (ho:o.op= .call {callee:= .builtin .append,args:= #[s,x],argTypes:= #[t,t]})
 (base:Nat) (e:TypeId) (z:Value) (size bytes:Nat) (ht:P.underlying t=some (.slice e)) (hi:(P.info? e).map (fun i=>(i.zero,i.size,i.bytes))=some (some z,size,bytes))
 (hzs:z.cells.size=size) (hsz:0<size)
 (v:Value) (n:Nat) (xs:List Value) (hs:a.eval s=v) (hown:w.ownsRow base e size v n xs)
 (ad:Addr) (m c:Nat) (news:List Value) (hx:a.eval x= .slice (some ad) m c) (hl:news.length=m * size) (hnews: ∀j u,news[j]?=some u→w.cell? (ad.add j)=some u) (h1: ∀u∈news,u.oneCell'=true)
 (h63:n+m≤maxLen) (hbytes:(n+m) * bytes≤140737488355328) (hbase:base≤w.heap.size)
 (h: ∀v' w',w'.ownsRow base e size v' (n+m) (xs ++ news)→w.grownBy w' v.ownBlock→(v'.ownBlock=v.ownBlock∨v'.ownBlock=some w.heap.size)→wpList P ops Q rest (a.put o.dst v') w'):wpList P ops Q (o :: rest) a w:=by
 obtain⟨i,hi1,hi2,hi3,hi4⟩:=Ygn hi
 exact wpList_append_own_at w hgd s x t ho base e i z size bytes ht hi1 hi2 hi3 hi4 hzs hsz v n xs hs hown ad m c news hx hl hnews h1 h63 hbytes hbase fun v' w' h2 h3 _ h5=>h v' w' h2 h3 h5
theorem Y4s{P:Program}{ops:Array Oper}{o:Oper}{a:Act}{w:World}{K:Act→World→Prop}{Q:Exit→Act→World→Prop}{E:Prop}
 (hgd:o.guard=none) (s x:Operand) (t:TypeId) (ho:o.op= .call {callee:= .builtin .append,args:= #[s,x],argTypes:= #[t,t]})
 (base:Nat) (e:TypeId) (z:Value) (size bytes:Nat) (ht:P.underlying t=some (.slice e)) (hi:(P.info? e).map (fun i=>(i.zero,i.size,i.bytes))=some (some z,size,bytes))
 (hzs:z.cells.size=size) (hsz:0<size)
 (v:Value) (n:Nat) (xs:List Value) (hs:a.eval s=v) (hown:w.ownsRow base e size v n xs)
 (ad:Addr) (m c:Nat) (news:List Value) (hx:a.eval x= .slice (some ad) m c) (hl:news.length=m * size) (hnews: ∀j u,news[j]?=some u→w.cell? (ad.add j)=some u) (h1: ∀u∈news,u.oneCell'=true)
 (h63:n+m≤maxLen) (hbytes:(n+m) * bytes≤140737488355328) (hbase:base≤w.heap.size)
 (h: ∀v' w',w'.ownsRow base e size v' (n+m) (xs ++ news)→w.grownBy w' v.ownBlock→(v'.ownBlock=v.ownBlock∨v'.ownBlock=some w.heap.size)→K (a.put o.dst v') w'):
 if Region.wanted o (yielded ops a.tmps)=true then Oper.wp P o a w K Q else E:=by
 obtain⟨i,hi1,hi2,hi3,hi4⟩:=Ygn hi
 rw[Yei (by simp[Region.wanted,hgd])]
 obtain⟨v',w',hr,h2,h3,h4,h5⟩:=run_append_own_at (P:=P) w base t o.type e i z size bytes ht hi1 hi2 hi3 hi4 hzs hsz v n xs hown ad m c news hl hnews h1 h63 hbytes hbase
 unfold Oper.wp execOp
 simp only[ho,resolve,invoke,builtin,Sem.run_bind,Sem.run_pure,Result.andThen_ok,List.map_toArray,YeY,YfH,hs,hx,hr]
 exact h v' w' h2 h3 h5
end
section
open Go.Proofs.Tryz
open Go.RowKit
theorem Y9o(v1 v2:Value)(xs:PL)(w:World)(hn:xs.length≤4611686018427387904)(h1:PSl w v1 xs)(h2:PSl w v2 xs):
 Calls prog 23 #[v1,v2] w fun e w'=>e= .returned (.bool true)∧Below w.heap.size w w':=by
 obtain⟨a1,c1,rfl,hl1,hc1⟩:=h1;obtain⟨a2,c2,rfl,hl2,hc2⟩:=h2;generalize hn':xs.length=n at *;by_cases h0:n=0
 ·subst h0;clear hc1 hc2 hn';go_enter func23,ntmps23;exact Z3g
 obtain⟨b1,o1,rfl,hd1⟩:=hc1.resolve_left h0;obtain⟨b2,o2,rfl,hd2⟩:=hc2.resolve_left h0;have hcell: ∀k,k<n→(w.cell? ⟨b1,o1+k * 2,none⟩=some (.string (bs (xs.getD k ([],[])).1))∧w.cell? ⟨b1,o1+k * 2+1,none⟩=some (.string (bs (xs.getD k ([],[])).2)))∧
  w.cell? ⟨b2,o2+k * 2,none⟩=some (.string (bs (xs.getD k ([],[])).1))∧w.cell? ⟨b2,o2+k * 2+1,none⟩=some (.string (bs (xs.getD k ([],[])).2)):=by
  intro k hk;obtain⟨e1,e2⟩:=Y48 xs k Z7;have a:=hd1 _ _ e1;have b:=hd1 _ _ e2;have c:=hd2 _ _ e1;have d:=hd2 _ _ e2;simp only[Nat.mul_comm k 2,YeT];exact⟨⟨a,b⟩,c,d⟩
 have Hcell:=hid hcell;clear hcell hc1 hc2 hd1 hd2 hl1 hl2 hn';go_enter func23,ntmps23;go_wp2;go_loopw [13] (fun i wr=> ∃k q:Nat,k≤n∧i= .int .i64 k∧wr=w.drewN q) (fun i _=>n - (intOf i).toNat)
 case atStart=>exact⟨0,0,by omega,rfl,rfl⟩
 case round =>
  obtain⟨k,q,hk,rfl,rfl⟩:=hrel;by_cases hlt:k<n
  ·obtain⟨⟨g1,g2⟩,g3,g4⟩:=Hcell.out k hlt;generalize xs.getD k ([],[])=s at *;obtain⟨s1,s2⟩:=s;simp only at g1 g2 g3 g4;go_wp2;go_quiet (fail);go_wp2;go_roundw
   case rel=>exact⟨k+1,_,by omega,by go_num,rfl⟩
   case measure=>exact Zw
  ·go_wp2;go_ret;exact⟨rfl,Yfk (Yea _ _) _⟩
end
section
open Go.RowKit
end
end Go.Proofs.YtfadikchijkcfaaGreatDoor
