/- The document's Fault.Is. -/
import Derived.Test.YtfadikchijkcfaaGreatDoorParsePure
import Derived.Test.YtfadikchijkcfaaGreatDoorPUint
import Derived.Test.YtfadikchijkcfaaGreatDoorProg
import Derived.Test.YtfadikchijkcfaaGreatDoorRel
import Derived.Test.YtfadikchijkcfaaGreatDoorField
import Derived.Test.YtfadikchijkcfaaGreatDoorChecked
set_option linter.unusedVariables false
set_option linter.unusedSectionVars false
set_option linter.unusedSimpArgs false
set_option maxRecDepth 100000
namespace Go.Proofs.YtfadikchijkcfaaGreatDoor
section
open Go.Proofs.Tryz
open Go.RowKit
theorem Y1u(k:Nat)(pl:Int)(w:World):
 Calls prog 10 #[YS k pl] w fun e w'=>e= .returned (.bool (decide (k=0)))∧Below w.heap.size w w':=by
 unfold YS;by_cases hk:k=0
 ·subst hk;go_enter func10,ntmps10;go_wp2;go_ret;exact Z2v
 ·have hb:((k:Int) == 0)=false:=Z1r;rw[Yeh hk];clear hk;go_enter func10,ntmps10;go_wp2;go_ret;exact Z2v
theorem Z32{P Q:Prop}(k:Q)(h:Q→P:=by
 have hmf: ∀ (fn:Fn) (first cap:Array Value) (w:World),(Instr.makeFunc fn first cap).run prog w= .ok (.func fn first cap) w:=fun _ _ _ _=>rfl
 refine fun z_=>?_
 revert hmf
 exact z_):P:=h k
end
section
open Go.Proofs.Tryz
open Go.RowKit
def Y3B(size:Nat)(l:List UInt8)(k:Nat):Value:= .string (bs ((l.drop (k * size)).take size))
def YI(size:Nat)(l:List UInt8):Nat:=if l.length=0 then 1 else(l.length+size - 1) / size
def Y3Y(size:Nat)(l:List UInt8):List Value:=(List.range (YI size l)).map (Y3B size l)
theorem Y8c:(prog.info? 9).map (fun i=>(i.zero,i.size,i.bytes))=some (some (.string ⟨#[]⟩),1,16):=by kernel_rfl
theorem Yc7(l:List UInt8)(size:Nat)(w:World)(hl:l.length≤1000000)(h1:1≤size)(h2:size≤20000):
 Calls prog 118 #[.string (bs l),.int .i64 size] w fun e w'=>(∃v,e= .returned (.tuple #[v,.nilIface])∧w'.ownsRow w.heap.size 9 1 v (YI size l) (Y3Y size l))∧Below w.heap.size w w':=by
 go_enter func118,ntmps118;go_wp2;go_loopw [0,6] (fun s v wr=> ∃k:Nat,k * size≤l.length∧(k=0∨k * size<l.length)∧s= .string (bs (l.drop (k * size)))∧wr.ownsRow w.heap.size 9 1 v k ((List.range k).map (Y3B size l))∧Below w.heap.size w wr) (fun s _ _=>Y7d s)
 case atStart=>exact⟨0,by omega,.inl rfl,by simp,YeD _ _ _ _,Yea _ _⟩
 case round =>
  obtain⟨k,hk,hk0,rfl,hown,hb⟩:=hrel;have hB:=hb.size;have hdl:(l.drop (k * size)).length=l.length - k * size:=Z2t
  have hk1500:k≤1000000:=by
   have:=Nat.le_mul_of_pos_right k h1;exact Z7
  by_cases hlt:size<l.length - k * size
  ·have hnext:(l.drop (k * size)).drop size=l.drop ((k+1) * size):=by rw[List.drop_drop,YfI]
   have hpiece:Value.string (bs ((l.drop (k * size)).take size))=Y3B size l k:=rfl;have Hnext:=hid hnext;have Hp:=hid hpiece;clear hnext hpiece;have hsucc:(List.range (k+1)).map (Y3B size l)=(List.range k).map (Y3B size l) ++ [Y3B size l k]:=by rw[List.range_succ,Yfi];rfl
   have Hs:=hid hsucc;clear hsucc;have hk2:(k+1) * size<l.length:=by rw[YfI];exact Z7
   clear hk0;have hk3:(k+1) * size=k * size+size:=YfI _ _;have Hk3:=hid hk3;clear hk3;have hle:size≤l.length - k * size:=Z7;generalize (List.range k).map (Y3B size l)=xs at *;generalize l.drop (k * size)=r at *;have htk:List.take (l.length - k * size) r=r:=Yfc Z7;have hown0:=hown.alloc (.cells #[.string (bs (r.take size))] 9);go_wp2;go_region_law (refine Y13 rfl (.tmp 18) (.tmp 22) 22 rfl w.heap.size 9 (.string ⟨#[]⟩) 1 16 underlying22 Y8c rfl Z16 _ k xs (by simp[Act.eval]) hown0 ⟨wr.heap.size,0,none⟩ 1 1 [.string (bs (r.take size))] (by simp[Act.eval]) rfl (cell_one_new _ _ _) Z1H ZS Z7 Zd ?_;intro v' w1 hown1 hgrow _)
   simp only[List.getElem_toArray,List.getElem_cons_succ,List.getElem_cons_zero,Act.put,YeF,Yf3,Yf4];go_wp2;go_roundw
   case rel=>exact⟨k+1,Nat.le_of_lt hk2,.inr hk2,by rw[Hnext.out],by rw[Hs.out,←Hp.out];exact hown1,Yp ((hb.alloc hB _).drew) hown0 hgrow Zd⟩
   case measure=>simp[Y7d,YJ];exact Z7
  ·have hK:YI size l=k+1:=by
    unfold YI
    split
    ·rename_i h0
     rcases hk0 with rfl | h<;>omega
    ·rename_i h0
     apply Nat.div_eq_of_lt_le
     ·rw[YfI];rcases hk0 with rfl | h<;>omega
     ·rw[YfI,YfI];exact Z7
   clear hk0
   have hp:(List.range (YI size l)).map (Y3B size l)=(List.range k).map (Y3B size l) ++ [.string (bs (l.drop (k * size)))]:=by
    rw[hK,List.range_succ,Yfi];simp only[YeY,YfH,Y3B];rw[Yfc Z7]
   have Hp:=hid hp;have HK:=hid hK;clear hp hK;generalize (List.range k).map (Y3B size l)=xs at *;generalize l.drop (k * size)=r at *;have hown0:=hown.alloc (.cells #[.string (bs r)] 9);go_wp2_with (at_builtin;refine Yj rfl (.tmp 27) (.tmp 29) 22 rfl w.heap.size 9 (.string ⟨#[]⟩) 1 16 underlying22 Y8c rfl Z16 _ k xs rfl hown0 ⟨wr.heap.size,0,none⟩ 1 1 [.string (bs r)] rfl rfl (cell_one_new _ _ _) Z1H ZS Z7 Zd ?_;intro v' w1 hown1 hgrow _)
   go_ret2;refine⟨⟨v',rfl,?_⟩,Yp (hb.alloc hB _) hown0 hgrow Zd⟩;rw[Y3Y,Hp.out,HK.out];exact hown1
def RSplit(l:List UInt8)(size:Nat)(w:World)(v i:Value)(wr:World):Prop:=
 ∃k:Nat,(k≤1∨(k - 1) * size<l.length)∧k≤1000001∧i= .int .i64 (k * size:Nat)∧wr.ownsRow w.heap.size 9 1 v k ((List.range k).map (Y3B size l))∧Below w.heap.size w wr
theorem Z3B{P:Prop}(h:P:=by
 exact⟨k+1,Hlt'.out,by omega,by rw[Hk2.out];go_num,by rw[Hs.out];exact hown1,Yp (hb.alloc hB _) (hown.alloc _) hgrow Zd⟩):P:=h
theorem YbD(l:List UInt8)(size:Nat)(w:World)(hl:l.length≤1000000)(h1:1≤size)(h2:size≤20000):
 Calls prog 63 #[.string (bs l),.int .i64 size] w fun e w'=>(∃v,e= .returned (.tuple #[v,.int .i64 0])∧w'.ownsRow w.heap.size 9 1 v (YI size l) (Y3Y size l))∧Below w.heap.size w w':=by
 go_enter func63,ntmps63;go_wp2_with (go_at_call 100;refine(YK _ _ _ _ Z7 Z7).mono ?_;rintro e w' ⟨rfl,rfl⟩);go_loopw [6,7] (fun v i wr=>RSplit l size w v i wr) (fun _ i _=>l.length+size - (intOf i).toNat)
 case atStart=>exact⟨0,.inl Z7,by omega,by simp,YeD _ _ _ _,Yea _ _⟩
 case round =>
  obtain⟨k,hk,hkb,rfl,hown,hb⟩:=hrel;have hB:=hb.size;by_cases hlt:k=0∨k * size<l.length
  ·have hk2:(k+1) * size=k * size+size:=YfI _ _
   have hkl:k≤l.length:=by
    rcases hlt with h | h
    ·exact Z7
    ·have:=Nat.le_mul_of_pos_right k h1;exact Z7
   have hi:k * size≤l.length:=by
    rcases hlt with rfl | h<;>omega
   have hsucc:(List.range (k+1)).map (Y3B size l)=(List.range k).map (Y3B size l) ++ [.string (bs ((l.drop (k * size)).take size))]:=by rw[List.range_succ,Yfi];rfl
   have Hs:=hid hsucc;clear hsucc
   have hz:(((k * size:Nat):Int) == 0)=true∨((((k * size:Nat):Int) == 0)=false∧k * size<l.length):=by
    by_cases h0:k * size=0
    ·exact .inl (by rw[h0];rfl)
    ·refine .inr ⟨by rw[Yen];omega,?_⟩;rcases hlt with rfl | h
     ·simp at h0
     ·exact h
   have hlt':k+1≤1∨(k+1 - 1) * size<l.length:=by
    rcases hlt with h | h
    ·exact .inl Z7
    ·exact .inr h
   have Hlt':=hid hlt';clear hlt';have Hk2:=hid hk2;clear hk2;clear hlt hk hkb;generalize (List.range k).map (Y3B size l)=xs at *;generalize hj:k * size=j at *;clear hj;rcases hz with hz | ⟨hz,hjl⟩
   all_goals
    by_cases hfull:j+size≤l.length
    ·have hm:(if(j:Int) +(size:Int) < (l.length:Int)then(j:Int) +(size:Int)else(l.length:Int))=((j+size:Nat):Int):=by split<;>omega
     have hA:List.drop j (List.take (j+size) l)=List.take size (List.drop j l):=by rw[List.drop_take,Nat.add_sub_cancel_left]
     go_wp2_with (at_builtin;refine Yj rfl (.tmp 22) (.tmp 32) 22 rfl w.heap.size 9 (.string ⟨#[]⟩) 1 16 underlying22 Y8c rfl Z16 u6 k xs rfl (hown.alloc _) ⟨wr.heap.size,0,none⟩ 1 1 [_] rfl rfl (cell_one_new _ _ _) Z1H ZS Z7 Zd ?_;intro v' w1 hown1 hgrow _);go_roundw
     case rel=>exact Z3B
     case measure=>exact Zw
    ·have hA:List.take size (List.drop j l)=List.drop j l:=Yfc Zd;rw[hA]at Hs;clear hA;have hm:(if(j:Int) +(size:Int) < (l.length:Int)then(j:Int) +(size:Int)else(l.length:Int))=(l.length:Int):=by split<;>omega
     go_wp2_with (at_builtin;refine Yj rfl (.tmp 22) (.tmp 32) 22 rfl w.heap.size 9 (.string ⟨#[]⟩) 1 16 underlying22 Y8c rfl Z16 u6 k xs rfl (hown.alloc _) ⟨wr.heap.size,0,none⟩ 1 1 [_] rfl rfl (cell_one_new _ _ _) Z1H ZS Z7 Zd ?_;intro v' w1 hown1 hgrow _);go_roundw
     case rel=>exact Z3B
     case measure=>exact Zw
  ·have hk1:1≤k:=Z7;have hge:l.length≤k * size:=Z7;have hj0:1≤k * size:=Nat.mul_pos hk1 h1;have h0:(((k * size:Nat):Int) == 0)=false:=Z1r
   have hK:YI size l=k:=by
    unfold YI
    have hs:k * size=(k - 1) * size+size:=by
     conv=>lhs;rw[show k=(k - 1) +1 by omega]
     rw[YfI]
    split
    ·rename_i h00
     rcases hk with h | h<;>omega
    ·rename_i h00
     have hlo:(k - 1) * size<l.length:=by
      rcases hk with h | h
      ·rw[show k - 1=0 by omega];exact Z7
      ·exact h
     apply Nat.div_eq_of_lt_le
     ·exact Z7
     ·rw[YfI];exact Z7
   have HK:=hid hK;clear hK hk hlt;have hp:(List.range k).map (Y3B size l)=Y3Y size l:=by rw[Y3Y,HK.out]
   rw[hp]at hown;clear hp;generalize k * size=j at *;go_wp2;go_ret2;refine⟨⟨u6,rfl,?_⟩,hb⟩;rw[HK.out];exact hown
end
section
open Go Go.RowKit
def also(d:Nat→Bool)(i:Nat)(j:Nat):Bool:=if i=j then true else d j
structure DoneInv(ops:Array Oper)(Ctx:(Nat→Bool)→World→Prop)(aF:Act)(listed:Array Bool)(a:Act)(w:World):Prop where
 size:listed.size=ops.size
 defers:a.defers=aF.defers
 tsize:a.tmps.size=aF.tmps.size
 vals: ∀t:Nat,(∀ (j:Nat) oj,ops[j]?=some oj→oj.dst=some t→listed.getD j false=true)→a.eval (.tmp t)=aF.eval (.tmp t)
 ctx:Ctx (fun j=>listed.getD j false) w
def Y8I(G:Nat→Oper→Prop):Nat→List Oper→Prop
 | _,[]=>True
 | i,o :: l=>G i o∧Y8I G (i+1) l
theorem Y4K{G:Nat→Oper→Prop}: ∀ {l:List Oper} {k:Nat},Y8I G k l→ ∀ (i:Nat) (o:Oper),l.toArray[i]?=some o→G (k+i) o
 | [],_,_,i,o,hi=>by simp at hi
 | x :: l,k,h,i,o,hi=>by
  cases i with
  | zero =>
   simp only[Yf1,YeZ,YeO]at hi
   subst hi
   exact h.1
  | succ i =>
   have:=Y4K h.2 i o (by simpa using hi)
   rwa [YeT,Nat.add_comm 1 i]at this
theorem Z2x{P:Prop}(h:P:=by
 simp[hdep]):P:=h
theorem Z2Q{P:Prop}(h:P:=by
 have e:(fun j=>(Array.replicate l.toArray.size false).getD j false)=fun _=>false:=by
  funext j
  rw[Yef,Yfh]
  split<;>rfl
 rw[e]
 exact h0):P:=h
end
section
open Go Go.RowKit
def Y5d(ops:Array Oper)(i:Nat):Nat→Nat→Bool
 | 0,_=>false
 | k+1,j=>match ops[j]? with
  | none=>false
  | some o=>o.after.any fun e=>Region.binds .any e && (e.on == i || Y5d ops i k e.on)
def chB(ops:Array Oper)(i:Nat)(ch:List Nat):Bool:=
 ch.all fun t=>(Y20 ops).contains t && (List.range ops.size).all fun j=>match ops[j]? with
  | none=>true
  | some o=>o.dst !=some t || j == i || Y5d ops i ops.size j
theorem Y9q{ops:Array Oper}{d:Nat→Bool}(hc: ∀j oj,ops[j]?=some oj→d j=true→ ∀e∈oj.after,Region.binds .any e=true→d e.on=true){i:Nat}: ∀ (k j:Nat),Y5d ops i k j=true→d j=true→d i=true:=by
 intro k
 induction k with
 | zero=>intro j h;cases h
 | succ k ih =>
  intro j h hj;rw[Y5d]at h
  cases ho:ops[j]? with
  | none=>rw[ho]at h;cases h
  | some o =>
   rw[ho]at h;simp only at h;obtain⟨m,hm,h⟩:=Array.any_eq_true.1 h;simp only[Yf9,Yg5,Yfb]at h;have h2:=hc j o ho hj _ (Array.getElem_mem hm) h.1;rcases h.2 with h3 | h3
   ·rw[h3]at h2;exact h2
   ·exact ih _ h3 h2
def Y1g(ch:List Nat):List (Nat×Value)→List (Nat×Value)→Prop
 | [],[]=>True
 | p :: l,q :: m=>p.1=q.1∧(p.1∈ch∨p.2=q.2)∧Y1g ch l m
 | _,_=>False
theorem Y5R{ch:List Nat}: ∀ {l m:List (Nat×Value)} (x y:Array Value),Y1g ch l m→x.size=y.size→ ∀t,t ∉ ch→x[t]?=y[t]?→(l.foldl (fun t p=>t.setIfInBounds p.1 p.2) x)[t]?= (m.foldl (fun t p=>t.setIfInBounds p.1 p.2) y)[t]?
 | [],[],x,y,_,_,t,_,h=>h
 | p :: l,q :: m,x,y,⟨h1,h2,h3⟩,hs,t,ht,h=>by
  rw[YeP,YeP]
  refine Y5R _ _ h3 (by simp[hs]) t ht ?_
  rw[Yet,Yet,←h1]
  by_cases hp:p.1=t
  ·rw[Yei hp,Yei hp,hs]
   rcases h2 with h2 | h2
   ·rw[hp]at h2;exact absurd h2 ht
   ·rw[h2]
  ·rw[Yed hp,Yed hp,h]
 | [],_ :: _,_,_,h,_,_,_,_=>h.elim
 | _ :: _,[],_,_,h,_,_,_,_=>h.elim
theorem Y8B{ch:List Nat}{l m:List (Nat×Value)}(a:Act)(h:Y1g ch l m)(t:Nat)(ht:t ∉ ch):(Yn a l).eval (.tmp t)=(Yn a m).eval (.tmp t):=by
 have:=Y5R a.tmps a.tmps h rfl t ht rfl;simp only[Yn,Act.eval,Yef];rw[this]
section
variable {G:Type}
def Y3e(F:Fence)(n:Nat)(P:Program)(ops:Array Oper)(i:Nat)(Ctx:G→World→Prop)(vals:G→List (Nat×Value))(aF:G→Act)(x:G)(o:Oper)(w:World):Prop:=
 match(execOp (aF x).eval o).run P w with
 | .ok (.value v) w'=> ∃y,(match o.dst with | some d=>v=(aF y).eval (.tmp d) | none=>True)∧(y=x∨ ∃ch,chB ops i ch=true∧Y1g ch (vals x) (vals y))∧Ctx y w'
 | .ok .skip w'=> ∃y,(match o.dst with | some d=>undef=(aF y).eval (.tmp d) | none=>True)∧(y=x∨ ∃ch,chB ops i ch=true∧Y1g ch (vals x) (vals y))∧Ctx y w'
 | .ok (.enter f args) w'=>(F.depth.isSome=true→1≤n)∧CallsIn F (n - 1) P f args w' (fun e w''=> ∃v,e= .returned v∧ ∃y,(match o.dst with | some d=>v=(aF y).eval (.tmp d) | none=>True)∧(y=x∨ ∃ch,chB ops i ch=true∧Y1g ch (vals x) (vals y))∧Ctx y w'')
 | _=>False
section
variable {F:Fence}{n:Nat}{P:Program}{ops:Array Oper}{i:Nat}{Ctx:G→World→Prop}{vals:G→List (Nat×Value)}{aF:G→Act}{x:G}{o:Oper}{w:World}
theorem Yz{d:Nat}(h:(execOp (aF x).eval o).run P w= .ok (.value ((aF x).eval (.tmp d))) w)(hd:o.dst=some d)(hc:Ctx x w):Y3e F n P ops i Ctx vals aF x o w:=by
 unfold Y3e;rw[h,hd];exact⟨x,rfl,.inl rfl,hc⟩
theorem YL{d:Nat}{w':World}(y:G)(ch:List Nat)(h:(execOp (aF x).eval o).run P w= .ok (.value ((aF y).eval (.tmp d))) w')(hd:o.dst=some d)(hch:chB ops i ch=true)(ha:Y1g ch (vals x) (vals y))(hc:Ctx y w'):Y3e F n P ops i Ctx vals aF x o w:=by
 unfold Y3e;rw[h,hd];exact⟨y,rfl,.inr ⟨ch,hch,ha⟩,hc⟩
theorem YX{w':World}(h:(execOp (aF x).eval o).run P w= .ok .skip w')(hd:o.dst=none)(hc:Ctx x w'):Y3e F n P ops i Ctx vals aF x o w:=by
 unfold Y3e;rw[h,hd];exact⟨x,trivial,.inl rfl,hc⟩
theorem Yw{f:FuncId}{args:Array Value}{w':World}{d:Nat}(h:(execOp (aF x).eval o).run P w= .ok (.enter f args) w')(hd:o.dst=some d)(hn:F.depth.isSome=true→1≤n)
 (hc:CallsIn F (n - 1) P f args w' (fun e w''=> ∃y,e= .returned ((aF y).eval (.tmp d))∧(y=x∨ ∃ch,chB ops i ch=true∧Y1g ch (vals x) (vals y))∧Ctx y w'')):Y3e F n P ops i Ctx vals aF x o w:=by
 unfold Y3e;rw[h,hd];refine⟨hn,hc.mono ?_⟩;rintro e w'' ⟨y,rfl,h2,h3⟩;exact⟨_,rfl,y,rfl,h2,h3⟩
end
structure Ybt(ops:Array Oper)(Ctx:(Nat→Bool)→G→World→Prop)(vals:G→List (Nat×Value))(a0:Act)(x:G)(listed:Array Bool)(a:Act)(w:World):Prop where
 size:listed.size=ops.size
 defers:a.defers=a0.defers
 tsize:a.tmps.size=a0.tmps.size
 vals: ∀t:Nat,(∀ (j:Nat) oj,ops[j]?=some oj→oj.dst=some t→listed.getD j false=true)→a.eval (.tmp t)=(Yn a0 (vals x)).eval (.tmp t)
 ctx:Ctx (fun j=>listed.getD j false) x w
 closed: ∀ (j:Nat) oj,ops[j]?=some oj→listed.getD j false=true→ ∀e∈oj.after,Region.binds .any e=true→listed.getD e.on false=true
theorem Yc8{F:Fence}{n:Nat}{P:Program}{ops:Array Oper}{Q:Exit→Act→World→Prop}{Ctx:(Nat→Bool)→G→World→Prop}{vals:G→List (Nat×Value)}{a0:Act}(hp:YbL ops=true)
 (hrun: ∀ (i:Nat) (o:Oper),ops[i]?=some o→(∀d,o.dst=some d→d<a0.tmps.size)∧ ∀d x w,Ctx d x w→d i=false→(∀e∈o.after,Region.binds .any e=true→d e.on=true)→
   (∀f,o.about P w (Yn a0 (vals x)).eval=some f→F.fn f)∧Y3e F n P ops i (Ctx (also d i)) vals (fun y=>Yn a0 (vals y)) x o w)
 (hQ: ∀d x w,(∀j,j<ops.size→d j=true)→Ctx d x w→Q .normal (Yn a0 (vals x)) w):
 ∀ (fuel:Nat) (listed:Array Bool) (a:Act) (x:G) (w:World),Ybt ops Ctx vals a0 x listed a w→((List.range ops.size).filter fun i=> !listed.getD i true).length≤fuel→wpAnyIn F n P .any ops Q fuel listed a w:=by
 have fin: ∀ (listed:Array Bool) (a:Act) (x:G) (w:World),Ybt ops Ctx vals a0 x listed a w→Region.ready .any ops listed= []→Q .normal a w:=by
  intro listed a x w hI h0
  have hall: ∀j,listed.getD j true=true:=fun j=>by
   cases hj:listed.getD j true with
   | true=>rfl
   | false=>exact absurd h0 (Y8Q hp hI.size j hj)
  have hS: ∀t,a.eval (.tmp t)=(Yn a0 (vals x)).eval (.tmp t):=fun t=>hI.vals t fun j oj hj hd=>by
   exact Z1a
  have haF:a=Yn a0 (vals x):=by
   have hsz:a.tmps.size=(Yn a0 (vals x)).tmps.size:=by rw[Y36];exact hI.tsize
   have ht:a.tmps=(Yn a0 (vals x)).tmps:=by
    refine YfC fun t=> ?_
    have h1:=hS t;by_cases hlt:t< (Yn a0 (vals x)).tmps.size
    ·have hlt2:t<a.tmps.size:=Z7;exact Z11
    exact Z2G
   have hd2:a.defers=(Yn a0 (vals x)).defers:=hI.defers;generalize Yn a0 (vals x)=b at *
   cases a
   cases b
   exact Z4M
  rw[haF];refine hQ _ x w (fun j hj=> ?_) hI.ctx;have:=hall j;show listed.getD j false=true
  rw[Yef,Yep (by rw[hI.size];exact hj)]at this ⊢;exact Z2Y
 intro fuel
 induction fuel with
 | zero =>
  intro listed a x w hI hc;have h0:(List.range ops.size).filter (fun i=> !listed.getD i true)= []:=YeL.1 Z7
  have hr:Region.ready .any ops listed= []:=by
   refine YeQ.2 fun j hj=> ?_
   have:=YeQ.1 h0 j hj;simp only[Yg7,Yg8]at this;simp[this]
  exact⟨hr,fin listed a x w hI hr⟩
 | succ fuel ih =>
  intro listed a x w hI hc;refine⟨fun h0=>fin listed a x w hI h0,fun i hi=> ?_⟩;obtain⟨hil,o,ho,hafter⟩:=Yge.1 hi;have hP:=Y5q hp ho;have hlt:i<ops.size:=(Yeo.1 ho).1;have hwant:Region.wanted o (yielded ops a.tmps)=true:=Z3R;unfold wpOpIn;simp only[ho,hwant,Yfw];obtain⟨hdlt,hr⟩:=hrun i o ho
  have hdi:listed.getD i false=false:=by
   rw[Yef,Yep (by rw[hI.size];exact hlt)]at hil ⊢;simpa using hil
  obtain⟨hr1,hr2⟩:=hr (fun j=>listed.getD j false) x w hI.ctx hdi (fun e he hb=>hafter e he hb)
  have hmark:(fun j=>(listed.setIfInBounds i true).getD j false)=also (fun j=>listed.getD j false) i:=by
   funext j
   rw[YM];unfold also;by_cases h:i=j
   ·rw[Yei ⟨h,by rw[hI.size];exact hlt⟩,Yei h]
   ·rw[Yed (fun e=>h e.1),Yed h]
  have hc':((List.range ops.size).filter fun j=> !(listed.setIfInBounds i true).getD j true).length≤fuel:=by
   have:=Y1q (N:=ops.size) hlt hil;omega
  have hsame: ∀u∈o.op.operands,a.eval u=(Yn a0 (vals x)).eval u:=by
   intro u hu
   cases u with
   | tmp t =>
    exact hI.vals t fun j oj hj hd=>by
     obtain⟨e,he,hb,rfl⟩:=hP.reads t hu j oj hj hd;exact hafter e he hb
   | _=>rfl
  have hex:=Ygp o hP.nosel hsame;have hab:=about_congr (P:=P) o w hsame
  have hclosed: ∀ (j:Nat) oj,ops[j]?=some oj→(listed.setIfInBounds i true).getD j false=true→ ∀e∈oj.after,Region.binds .any e=true→(listed.setIfInBounds i true).getD e.on false=true:=by
   intro j oj hj hjd e he hb
   have mk: ∀k,listed.getD k false=true→(listed.setIfInBounds i true).getD k false=true:=by
    intro k hk;rw[YM]
    split
    ·rfl
    ·exact hk
   by_cases hij:i=j
   ·subst hij;rw[ho]at hj
    cases hj
    exact mk _ (hafter e he hb)
   ·rw[YM,Yed (fun e=>hij e.1)]at hjd;exact mk _ (hI.closed j oj hj hjd e he hb)
  have keep: ∀y:G,(y=x∨ ∃ch,chB ops i ch=true∧Y1g ch (vals x) (vals y))→ ∀t,(∀ (j:Nat) oj,ops[j]?=some oj→oj.dst=some t→listed.getD j false=true)→(Yn a0 (vals x)).eval (.tmp t)=(Yn a0 (vals y)).eval (.tmp t):=by
   rintro y (rfl | ⟨ch,hch,hag⟩) t ht
   ·rfl
   ·refine Y8B a0 hag t fun hmem=> ?_
    have h:=Yew.1 hch t hmem;simp only[Yf9]at h;have hw:t∈Y20 ops:=by simpa using h.1
    obtain⟨oj,hoj,hd⟩:=Yg1.1 hw;obtain⟨j,hj,rfl⟩:=YfF.1 hoj;have hjs:j<ops.size:=by simpa using hj
    have hj2:ops[j]?=some (ops.toList[j]):=by simp[hjs]
    have h2:=Yew.1 h.2 j (Yf6.2 hjs);rw[hj2]at h2;simp only[hd,bne_self_eq_false,Yg6,Yg5,Yfb]at h2;have hl:=ht j _ hj2 hd;rcases h2 with rfl | h2
    ·rw[hl]at hdi
     cases hdi
    ·have:=Y9q (d:=fun j=>listed.getD j false) (fun j oj hj hjd e he hb=>hI.closed j oj hj hjd e he hb) _ _ h2 hl;have this:listed.getD i false=true:=this;rw[this]at hdi
     cases hdi
  have next: ∀ (v:Value) (y:G) (w':World),(match o.dst with | some d=>v=(Yn a0 (vals y)).eval (.tmp d) | none=>True)→(y=x∨ ∃ch,chB ops i ch=true∧Y1g ch (vals x) (vals y))→Ctx (also (fun j=>listed.getD j false) i) y w'→wpAnyIn F n P .any ops Q fuel (listed.setIfInBounds i true) (a.put o.dst v) w':=by
   intro v y w' hv hk hw';have hkeep:=keep y hk;rw[←hmark]at hw'
   cases hd:o.dst with
   | none =>
    refine ih _ _ y _ ⟨by rw[YeB];exact hI.size,hI.defers,hI.tsize,fun t ht=> ?_,hw',hclosed⟩ hc'
    have hold: ∀ (j:Nat) oj,ops[j]?=some oj→oj.dst=some t→listed.getD j false=true:=fun j oj hj hjd=>by
     have h1:=ht j oj hj hjd;rw[YM,Yed]at h1
     ·exact h1
     ·rintro⟨rfl,_⟩;rw[ho]at hj
      cases hj
      rw[hd]at hjd
      cases hjd
    exact(hI.vals t hold).trans (hkeep t hold)
   | some d =>
    rw[hd]at hv;simp only at hv;have hdl:d<a.tmps.size:=by rw[hI.tsize];exact hdlt d hd
    refine ih _ _ y _ ⟨by rw[YeB];exact hI.size,hI.defers,?_,fun t ht=> ?_,hw',hclosed⟩ hc'
    ·show(a.tmps.setIfInBounds d _).size=_
     rw[YeB,hI.tsize]
    ·by_cases hdt:d=t
     ·subst hdt;show(a.tmps.setIfInBounds d v).getD d undef=_
      rw[←hv];simp[Array.getD,hdl]
     ·show(a.tmps.setIfInBounds d v).getD t undef=_
      rw[Yef,Yet,Yed hdt,←Yef]
      have hold: ∀ (j:Nat) oj,ops[j]?=some oj→oj.dst=some t→listed.getD j false=true:=fun j oj hj hjd=>by
       have h1:=ht j oj hj hjd;rw[YM,Yed]at h1
       ·exact h1
       ·rintro⟨rfl,_⟩;rw[ho]at hj
        cases hj
        rw[hd]at hjd
        cases hjd
        exact hdt rfl
      exact(hI.vals t hold).trans (hkeep t hold)
  unfold Oper.wpIn;rw[hab,Yg9 _ _ _ hP.nodefer,hex];refine⟨hr1,?_⟩;unfold Y3e at hr2
  split at hr2
  ·rename_i v w' heq
   rw[heq];obtain⟨y,h1,h2,h3⟩:=hr2;exact next v y w' h1 h2 h3
  ·rename_i w' heq
   rw[heq];obtain⟨y,h1,h2,h3⟩:=hr2;exact next undef y w' h1 h2 h3
  ·rename_i f args w' heq
   rw[heq];refine⟨hr2.1,hr2.2.mono ?_⟩;rintro e w'' ⟨v,rfl,y,h1,h2,h3⟩;exact next v y w'' h1 h2 h3
  ·exact hr2.elim
theorem Yk{F:Fence}{n:Nat}{P:Program}{id:Nat}{l:List Oper}{Q:Exit→Act→World→Prop}(vals:G→List (Nat×Value))(Ctx:(Nat→Bool)→G→World→Prop)(x0:G){a:Act}{w:World}{aF:G→Act}(haF: ∀y,Yn a (vals y)=aF y)(hm:P.follows .mixedOrders=true)
 (keys:List Nat) (hkeys: ∀x,(vals x).map (·.1)=keys) (hk:keys.all (fun t=>(Y20 l.toArray).contains t)=true) (hp:YbL l.toArray=true) (h0:Ctx (fun _=>false) x0 w.drew)
 (hrun:Y8I (fun i o=>(∀d,o.dst=some d→d<a.tmps.size)∧ ∀d x w,Ctx d x w→d i=false→(∀e∈o.after,Region.binds .any e=true→d e.on=true)→
   (∀f,o.about P w (aF x).eval=some f→F.fn f)∧Y3e F n P l.toArray i (Ctx (also d i)) vals aF x o w) 0 l)
 (hQ: ∀d x w',(∀j,j<l.length→d j=true)→Ctx d x w'→Q .normal (aF x) w'):
 (Code.region id l.toArray true).wpIn F n P Q a w:=by
 obtain rfl:(fun y=>Yn a (vals y))=aF:=funext haF;refine wpIn_region_any hm (Yc8 (vals:=vals) (a0:=a) hp (fun i o hi=>by simpa using Y4K hrun i o hi) (fun d x w h=>hQ d x w Z3o) _ _ _ x0 _ ⟨by simp,rfl,rfl,fun t ht=> ?_,?_,?_⟩ ?_)
 ·have hw:t ∉ (vals x0).map (·.1):=by
   rw[hkeys];exact Z55
  have:=Y4j a (vals x0) t hw;simp only[Act.eval,Yef];rw[this]
 ·exact Z2Q
 ·intro j oj hj hjd;rw[Yef,Yfh]at hjd
  split at hjd<;>simp at hjd
 exact Z1n
end
end
section
open Go.Proofs.Tryz
open Go.RowKit
theorem Ye3(a n:Int)(w:World)(ha:0≤a)(ha2:a≤4294967295):
 Calls prog 160 #[.int .u32 a,.int .i64 n] w fun e w'=>e= .returned (.int .u32 ((a+n) % 4294967296))∧w=w':=by
 go_enter func160,ntmps160;go_wp2
 all_goals
  go_ret;refine⟨Y80 ?_,rfl⟩
  try omega
theorem Y5k(n m:Int)(hm:0<m):(0≤n∧n.tmod m=n % m)∨(n<0∧n.tmod m= -((-n) % m)):=by
 by_cases h:0≤n
 ·exact .inl ⟨h,Ygb h⟩
 ·refine .inr ⟨by omega,?_⟩;rw[←Ygb (a:= -n) Z7,Int.neg_tmod,Int.neg_neg]
theorem YaH(a n:Int)(ha:0≤a)(ha2:a≤4294967295):
 (wrap64 ((wrap64 (a+n.tmod 4294967296)).tmod 4294967296+4294967296)).tmod 4294967296 % 4294967296=(a+n) % 4294967296:=by
 have h1:=Y5k n 4294967296 Z7;have e1:wrap64 (a+n.tmod 4294967296)=a+n.tmod 4294967296:=(by unfold wrap64;exact Z7);rw[e1];have h2:=Y5k (a+n.tmod 4294967296) 4294967296 Z7;have e2:wrap64 ((a+n.tmod 4294967296).tmod 4294967296+4294967296)=(a+n.tmod 4294967296).tmod 4294967296+4294967296:=(by unfold wrap64;exact Z7);rw[e2];have h3:=Y5k ((a+n.tmod 4294967296).tmod 4294967296+4294967296) 4294967296 Z7
 exact Z7
theorem YbJ(a n:Int)(w:World)(ha:0≤a)(ha2:a≤4294967295)(hn: -9223372036854775808≤n)(hn2:n≤9223372036854775807):
 Calls prog 74 #[.int .u32 a,.int .i64 n] w fun e w'=>e= .returned (.int .u32 ((a+n) % 4294967296))∧w=w':=by
 go_enter func74,ntmps74;go_wp2;go_ret;exact⟨Y80 (YaH a n ha ha2),rfl⟩
end
section
open Go.Proofs.Tryz
open Go Go.RowKit Go.Maps
theorem Y9h(i:Int)(h0: -9223372036854775808≤i)(h1:i≤9223372036854775807):keyOf prog 3 (.int .i64 i)=some (.int .i64 i):=
 keyOf_int_mk underlying3 (WalkArith.wf_i64 (by omega))
end
section
open Go.Proofs.Tryz
open Go Go.RowKit Go.Maps
open Go.ChangeMaps (heap_setBlock_same heap_setBlock_other setBlock)
theorem Y57:Keyed prog 3:=int_keyed underlying3
section
variable {w:World}{M:Nat}{es:Array MapEntry}{clock:Nat}(hb:w.heap[M]?=some (.map es clock))(hes: ∀e∈es.toList,∃l,keyOf prog 3 e.key=some l)(k:Int)(h0: -9223372036854775808≤k)(h1:k≤9223372036854775807)
include hb hes h0 h1
theorem Yba(hk: ∀e∈es.toList,e.key≠ .int .i64 k)(v:Value):(Instr.mapUpdate 165 (.map (some M)) (.int .i64 k) v).run prog w= .ok () (setBlock w M (.map (es.push ⟨.int .i64 k,v,clock⟩) (clock+1))):=by
 have hkey:=Y9h k h0 h1;rcases Y57.find w hkey es.toList hes with ⟨h2,_⟩ | ⟨j,e,_,h3,h4⟩
 ·simp[Instr.mapUpdate,run_underlying underlying165,MapKept.run_getObj_map hb,Y57.check w false hkey,h2,MapKept.run_setObj_map _ hb,Result.andThen,setBlock]
 ·exact absurd h4 (hk e (Yer h3))
theorem fm_look(hz: ∀W:World,(zeroValue 164).run prog W= .ok .nilFunc W):(∃e∈es.toList,e.key= .int .i64 k∧(Instr.lookup 165 (.map (some M)) (.int .i64 k) true).run prog w= .ok (.tuple #[e.val,.bool true]) w)∨
 ((∀e∈es.toList,e.key≠ .int .i64 k)∧(Instr.lookup 165 (.map (some M)) (.int .i64 k) true).run prog w= .ok (.tuple #[.nilFunc,.bool false]) w):=by
 have hkey:=Y9h k h0 h1;rcases Y57.find w hkey es.toList hes with ⟨h2,h3⟩ | ⟨j,e,h2,h3,h4⟩
 ·right;refine⟨h3,?_⟩;simp[Instr.lookup,run_underlying underlying165,MapKept.run_getObj_map hb,Y57.check w es.isEmpty hkey,h2,hz,Result.andThen]
 ·left;refine⟨e,Yer h3,h4,?_⟩;simp[Instr.lookup,run_underlying underlying165,MapKept.run_getObj_map hb,Y57.check w es.isEmpty hkey,h2,Result.andThen]
end
theorem zeroFn(W:World):(zeroValue 164).run prog W= .ok .nilFunc W:=by kernel_rfl
theorem Y3r{w:World}{M:Nat}{o:Obj}:w.grownBy (setBlock w M o) (some M):=⟨rfl,rfl,rfl,by simp[setBlock],fun i _ hi=>by
 have hi:i≠M:=fun e=>hi (by rw[e])
 simp[setBlock,Yet]
 intro e
 exact absurd e.symm hi⟩
theorem Y4z{w:World}{M:Nat}{o:Obj}(h:M<w.heap.size):(setBlock w M o).heap[M]?=some o:=by simp[setBlock,Yet,h]
theorem Y59(w:World)(f0 f4 f6:Value):
 ∃W1 W2 W3,(Instr.mapUpdate 165 (.map (some w.heap.size)) (.int .i64 0) f0).run prog (w.alloc (.map #[] 0))= .ok () W1∧(Instr.mapUpdate 165 (.map (some w.heap.size)) (.int .i64 4) f4).run prog W1= .ok () W2∧
  (Instr.mapUpdate 165 (.map (some w.heap.size)) (.int .i64 6) f6).run prog W2= .ok () W3∧Below w.heap.size w W3∧W3.heap.size=w.heap.size+1∧
  ∀ (op:Int),-9223372036854775808≤op→op≤9223372036854775807→(Instr.lookup 165 (.map (some w.heap.size)) (.int .i64 op) true).run prog W3= .ok (if op=0 then .tuple #[f0,.bool true]else if op=4 then .tuple #[f4,.bool true]else if op=6 then .tuple #[f6,.bool true]else .tuple #[.nilFunc,.bool false]) W3:=by
 have hb0:(w.alloc (.map #[] 0)).heap[w.heap.size]?=some (.map #[] 0):=YeC _ _;have p1:=Yba hb0 Z2t 0 Z7 Z7 Z2t f0;have z0:w.heap.size< (w.alloc (.map #[] 0)).heap.size:=Z2t;have hb1:=Y4z (w:=w.alloc (.map #[] 0)) (o:= .map ((#[]:Array MapEntry).push ⟨.int .i64 0,f0,0⟩) (0+1)) z0;have g1:=Y3r (w:=w.alloc (.map #[] 0)) (M:=w.heap.size) (o:= .map ((#[]:Array MapEntry).push ⟨.int .i64 0,f0,0⟩) (0+1))
 generalize setBlock (w.alloc (.map #[] 0)) w.heap.size (.map ((#[]:Array MapEntry).push ⟨.int .i64 0,f0,0⟩) (0+1))=W1 at *;have k0:=Y9h 0 Z7 Z7;have k4:=Y9h 4 Z7 Z7;have k6:=Y9h 6 Z7 Z7;have p2:=Yba hb1 (by intro e he;simp at he;subst he;exact⟨_,k0⟩) 4 Z7 Z7 (by intro e he;simp at he;subst he;exact Z2t) f4;have z1:w.heap.size<W1.heap.size:=Yee z0 g1.size;have hb2:=Y4z (w:=W1) (o:= .map (((#[]:Array MapEntry).push ⟨.int .i64 0,f0,0⟩).push ⟨.int .i64 4,f4,0+1⟩) (0+1+1)) z1
 have g2:=Y3r (w:=W1) (M:=w.heap.size) (o:= .map (((#[]:Array MapEntry).push ⟨.int .i64 0,f0,0⟩).push ⟨.int .i64 4,f4,0+1⟩) (0+1+1));have s2:(setBlock W1 w.heap.size (.map (((#[]:Array MapEntry).push ⟨.int .i64 0,f0,0⟩).push ⟨.int .i64 4,f4,0+1⟩) (0+1+1))).heap.size=W1.heap.size:=by simp[setBlock]
 generalize setBlock W1 w.heap.size (.map (((#[]:Array MapEntry).push ⟨.int .i64 0,f0,0⟩).push ⟨.int .i64 4,f4,0+1⟩) (0+1+1))=W2 at *;have p3:=Yba hb2 (by intro e he;simp at he;rcases he with rfl | rfl;exact⟨_,k0⟩;exact⟨_,k4⟩) 6 Z7 Z7 (by intro e he;simp at he;rcases he with rfl | rfl<;>simp) f6;have z2:w.heap.size<W2.heap.size:=Yee z1 g2.size;have hb3:=Y4z (w:=W2) (o:= .map ((((#[]:Array MapEntry).push ⟨.int .i64 0,f0,0⟩).push ⟨.int .i64 4,f4,0+1⟩).push ⟨.int .i64 6,f6,0+1+1⟩) (0+1+1+1)) z2
 have g3:=Y3r (w:=W2) (M:=w.heap.size) (o:= .map ((((#[]:Array MapEntry).push ⟨.int .i64 0,f0,0⟩).push ⟨.int .i64 4,f4,0+1⟩).push ⟨.int .i64 6,f6,0+1+1⟩) (0+1+1+1));have s3:(setBlock W2 w.heap.size (.map ((((#[]:Array MapEntry).push ⟨.int .i64 0,f0,0⟩).push ⟨.int .i64 4,f4,0+1⟩).push ⟨.int .i64 6,f6,0+1+1⟩) (0+1+1+1))).heap.size=W2.heap.size:=by simp[setBlock]
 generalize setBlock W2 w.heap.size (.map ((((#[]:Array MapEntry).push ⟨.int .i64 0,f0,0⟩).push ⟨.int .i64 4,f4,0+1⟩).push ⟨.int .i64 6,f6,0+1+1⟩) (0+1+1+1))=W3 at *;refine⟨W1,W2,W3,p1,p2,p3,?_,?_,fun op o0 o1=> ?_⟩
 ·have hA:=(Yea w.heap.size w).alloc (Ye9 _) (.map #[] 0);exact Y2W (Y2W (Y2W hA g1 (Ye9 _) Z7) g2 (Ye9 _) Z7) g3 (Ye9 _) Z7
 ·have:W1.heap.size=w.heap.size+1:=by
   have h1:=p1;have h2:=Yba hb0 Z2t 0 Z7 Z7 Z2t f0;rw[h2]at h1;simp only[Result.ok.injEq,true_and]at h1;rw[←h1];simp[setBlock]
  exact Z7
 ·rcases fm_look hb3 (by intro e he;simp at he;rcases he with rfl | rfl | rfl;exact⟨_,k0⟩;exact⟨_,k4⟩;exact⟨_,k6⟩) op o0 o1 zeroFn with ⟨e,he,hk,hr⟩ | ⟨hk,hr⟩
  ·simp at he;rcases he with rfl | rfl | rfl
   ·simp at hk;subst hk;rw[hr,Yei rfl]
   ·simp at hk;subst hk;rw[hr,Yed Z7,Yei rfl]
   ·simp at hk;subst hk;rw[hr,Yed Z7,Yed Z7,Yei rfl]
  ·have n0:op≠0:=fun e=>hk ⟨.int .i64 0,f0,0⟩ Z2t (by rw[e])
   have n4:op≠4:=fun e=>hk ⟨.int .i64 4,f4,0+1⟩ Z2t (by rw[e])
   have n6:op≠6:=fun e=>hk ⟨.int .i64 6,f6,0+1+1⟩ Z2t (by rw[e])
   rw[hr,Yed n0,Yed n4,Yed n6]
end
section
open Go Go.RowKit
def Y4e(P:Program)(J:Act→World→Prop)(a:Act)(o:Oper)(w:World):Prop:=
 match(execOp a.eval o).run P w with
 | .ok (.value v) w'=>J (a.put o.dst v) w'
 | .ok .skip w'=>J (a.put o.dst undef) w'
 | _=>False
theorem Ydh{F:Fence}{n:Nat}{P:Program}{ops:Array Oper}{Q:Exit→Act→World→Prop}(I:(Nat→Bool)→Act→World→Prop)(hp:YbL ops=true)
 (hrun: ∀ (i:Nat) (o:Oper),ops[i]?=some o→ ∀d a w,I d a w→d i=false→(∀e∈o.after,Region.binds .any e=true→d e.on=true)→(∀f,o.about P w a.eval=some f→F.fn f)∧Y4e P (I (also d i)) a o w)
 (hQ: ∀d a w,(∀j,j<ops.size→d j=true)→I d a w→Q .normal a w):
 ∀ (fuel:Nat) (listed:Array Bool) (a:Act) (w:World),listed.size=ops.size→I (fun j=>listed.getD j false) a w→((List.range ops.size).filter fun i=> !listed.getD i true).length≤fuel→wpAnyIn F n P .any ops Q fuel listed a w:=by
 have fin: ∀ (listed:Array Bool) (a:Act) (w:World),listed.size=ops.size→I (fun j=>listed.getD j false) a w→Region.ready .any ops listed= []→Q .normal a w:=by
  intro listed a w hsz hI h0;refine hQ _ a w (fun j hj=> ?_) hI
  have hall:listed.getD j true=true:=by
   cases hj:listed.getD j true with
   | true=>rfl
   | false=>exact absurd h0 (Y8Q hp hsz j hj)
  show listed.getD j false=true
  rw[Yef,Yep (by rw[hsz];exact hj)]at hall ⊢;simpa using hall
 intro fuel
 induction fuel with
 | zero =>
  intro listed a w hsz hI hc;have h0:(List.range ops.size).filter (fun i=> !listed.getD i true)= []:=YeL.1 Z7
  have hr:Region.ready .any ops listed= []:=by
   refine YeQ.2 fun j hj=> ?_
   have:=YeQ.1 h0 j hj;simp only[Yg7,Yg8]at this;simp[this]
  exact⟨hr,fin listed a w hsz hI hr⟩
 | succ fuel ih =>
  intro listed a w hsz hI hc;refine⟨fun h0=>fin listed a w hsz hI h0,fun i hi=> ?_⟩;obtain⟨hil,o,ho,hafter⟩:=Yge.1 hi;have hP:=Y5q hp ho;have hlt:i<ops.size:=(Yeo.1 ho).1;have hwant:Region.wanted o (yielded ops a.tmps)=true:=Z3R;unfold wpOpIn;simp only[ho,hwant,Yfw]
  have hdi:listed.getD i false=false:=by
   rw[Yef,Yep (by rw[hsz];exact hlt)]at hil ⊢;simpa using hil
  obtain⟨hr1,hr2⟩:=hrun i o ho _ a w hI hdi (fun e he hb=>hafter e he hb)
  have hmark:(fun j=>(listed.setIfInBounds i true).getD j false)=also (fun j=>listed.getD j false) i:=by
   funext j
   rw[YM];unfold also;by_cases h:i=j
   ·rw[Yei ⟨h,by rw[hsz];exact hlt⟩,Yei h]
   ·rw[Yed (fun e=>h e.1),Yed h]
  have hc':((List.range ops.size).filter fun j=> !(listed.setIfInBounds i true).getD j true).length≤fuel:=by
   have:=Y1q (N:=ops.size) hlt hil;omega
  have next: ∀ (a':Act) (w':World),I (also (fun j=>listed.getD j false) i) a' w'→wpAnyIn F n P .any ops Q fuel (listed.setIfInBounds i true) a' w':=by
   intro a' w' hw';rw[←hmark]at hw';exact ih _ _ _ (by rw[YeB];exact hsz) hw' hc'
  unfold Oper.wpIn;rw[Yg9 _ _ _ hP.nodefer];refine⟨hr1,?_⟩;unfold Y4e at hr2
  split at hr2
  ·rename_i v w' heq
   rw[heq];exact next _ w' hr2
  ·rename_i w' heq
   rw[heq];exact next _ w' hr2
  ·exact hr2.elim
theorem Yaa{F:Fence}{n:Nat}{P:Program}{id:Nat}{l:List Oper}{Q:Exit→Act→World→Prop}(I:Act→(Nat→Bool)→Act→World→Prop){a:Act}{w:World}(hm:P.follows .mixedOrders=true)(hp:YbL l.toArray=true)(h0:I a (fun _=>false) a w.drew)
 (hrun:Y8I (fun i o=> ∀d a' w,I a d a' w→d i=false→(∀e∈o.after,Region.binds .any e=true→d e.on=true)→(∀f,o.about P w a'.eval=some f→F.fn f)∧Y4e P (I a (also d i)) a' o w) 0 l)
 (hQ: ∀d a' w',(∀j,j<l.length→d j=true)→I a d a' w'→Q .normal a' w'):
 (Code.region id l.toArray true).wpIn F n P Q a w:=by
 refine wpIn_region_any hm (Ydh (I a) hp (fun i o hi=>by simpa using Y4K hrun i o hi) (fun d a w h=>hQ d a w Z3o) _ _ _ _ Z2t ?_ ?_)
 ·exact Z2Q
 exact Z1n
end
end Go.Proofs.YtfadikchijkcfaaGreatDoor
