/- A region that draws its order: its slots come to given values, and a word on the world holds behind each operation, stores too. No program in sight. -/
import Derived.Test.YtfadikchijkcfaaGreatDoorParsePure
import Derived.Test.YtfadikchijkcfaaGreatDoorField
import Derived.Test.YtfadikchijkcfaaGreatDoorChecked
import Derived.StringKeys
set_option linter.unusedVariables false
set_option linter.unusedSectionVars false
set_option linter.unusedSimpArgs false
namespace Go.Proofs.YtfadikchijkcfaaGreatDoor
section
open Go Go.RowKit
def YbL(ops:Array Oper):Bool:=
 (List.range ops.size).all fun i=>match ops[i]? with
  | none=>false
  | some o =>
   o.guard.isNone &&
   (match o.op with | .defer _=>false | .select _ _=>false | _=>true) &&
   o.after.all (fun e=> !Region.binds .any e || decide (e.on<i)) &&
   (o.op.operands.toList.all fun | .tmp t=>(List.range ops.size).all (fun j=>match ops[j]? with | some oj=>oj.dst !=some t || o.after.any (fun e=>Region.binds .any e && e.on == j) | none=>true) | _=>true) &&
   ((List.range ops.size).all fun j=>j == i || match ops[j]? with | some oj=>oj.dst !=o.dst || o.dst.isNone | none=>true)
structure PlanNOf(ops:Array Oper)(i:Nat)(o:Oper):Prop where
 guard:o.guard=none
 nodefer: ∀c,o.op≠ .defer c
 nosel: ∀cs b,o.op≠ .select cs b
 back: ∀e∈o.after,Region.binds .any e=true→e.on<i
 reads: ∀t,Operand.tmp t∈o.op.operands→ ∀j oj,ops[j]?=some oj→oj.dst=some t→ ∃e∈o.after,Region.binds .any e=true∧e.on=j
theorem Y5q{ops:Array Oper}(h:YbL ops=true){i:Nat}{o:Oper}(hi:ops[i]?=some o):PlanNOf ops i o:=by
 refine Z2g ?_;intro hlt h;obtain⟨⟨⟨⟨h1,h2⟩,h3⟩,h5⟩,h6⟩:=h;refine⟨by simpa using h1,?_,?_,?_,?_⟩
 ·intro c hc;simp[hc]at h2
 ·intro cs b hc;simp[hc]at h2
 ·exact Z2r
 ·exact ZN
theorem Y8Q{ops:Array Oper}(hp:YbL ops=true){listed:Array Bool}(hsz:listed.size=ops.size)(k:Nat)(hk:listed.getD k true=false):Region.ready .any ops listed≠ []:=by
 induction k using Nat.strongRecOn with
 | _ k ih =>
  have hlt:k<ops.size:=by
   rcases YeU k listed.size with h | h
   ·omega
   ·rw[Yef,YeA h]at hk
    cases hk
  by_cases hall: ∀e∈ (ops[k]).after,Region.binds .any e=true→listed.getD e.on false=true
  ·have:k∈Region.ready .any ops listed:=Yge.2 ⟨hk,ops[k],by simp[hlt],hall⟩;intro e;rw[e]at this
   cases this
  ·simp only[Ygd]at hall;obtain⟨e,he,hb,hn⟩:=hall;have hlt2:=(Y5q hp (show ops[k]?=some ops[k] by simp[hlt])).back e he hb;refine ih e.on hlt2 ?_;have:e.on<listed.size:=Z7;rw[Yef,Yep this]at hn ⊢;simpa using hn
def Y9D(F:Fence)(n:Nat)(P:Program)(Ctx:World→Prop)(aF:Act)(o:Oper)(w:World):Prop:=
 match(execOp aF.eval o).run P w with
 | .ok (.value v) w'=>(match o.dst with | some d=>v=aF.eval (.tmp d) | none=>True)∧Ctx w'
 | .ok .skip w'=>(match o.dst with | some d=>undef=aF.eval (.tmp d) | none=>True)∧Ctx w'
 | .ok (.enter f args) w'=>(F.depth.isSome=true→1≤n)∧CallsIn F (n - 1) P f args w' (fun e w''=> ∃v,e= .returned v∧(match o.dst with | some d=>v=aF.eval (.tmp d) | none=>True)∧Ctx w'')
 | _=>False
def YaN(G:Oper→Prop):List Oper→Prop
 | []=>True
 | o :: l=>G o∧YaN G l
theorem Y6R{G:Oper→Prop}: ∀ {l:List Oper},YaN G l→ ∀ (i:Nat) (o:Oper),l.toArray[i]?=some o→G o
 | [],_,i,o,hi=>by simp at hi
 | x :: l,h,i,o,hi=>by
  cases i with
  | zero =>
   simp only[Yf1,YeZ,YeO]at hi
   subst hi
   exact h.1
  | succ i=>exact Y6R h.2 i o (by simpa using hi)
theorem Z55{P:Prop}(h:P:=by
 intro h
 have:=Yew.1 hk t h
 have hw:t∈Y20 l.toArray:=Z2Y
 exact Zm):P:=h
end
section
open Go Go.RowKit
def planG(ops:Array Oper):Bool:=
 (List.range ops.size).all fun i=>match ops[i]? with
  | none=>false
  | some o =>
   (match o.guard with | none=>true | some (k,_)=>o.after.any (fun e=>Region.binds .any e && e.on == k) && (match ops[k]? with | some ok=>ok.dst.isSome | none=>false)) &&
   (match o.op with | .defer _=>false | .select _ _=>false | _=>true) &&
   o.after.all (fun e=> !Region.binds .any e || decide (e.on<i)) &&
   (o.op.operands.toList.all fun | .tmp t=>(List.range ops.size).all (fun j=>match ops[j]? with | some oj=>oj.dst !=some t || o.after.any (fun e=>Region.binds .any e && e.on == j) | none=>true) | _=>true) &&
   ((List.range ops.size).all fun j=>j == i || match ops[j]? with | some oj=>oj.dst !=o.dst || o.dst.isNone | none=>true)
structure PlanGOf(ops:Array Oper)(i:Nat)(o:Oper):Prop where
 guard: ∀k b,o.guard=some (k,b)→(∃e∈o.after,Region.binds .any e=true∧e.on=k)∧ ∃ok d,ops[k]?=some ok∧ok.dst=some d
 nodefer: ∀c,o.op≠ .defer c
 nosel: ∀cs b,o.op≠ .select cs b
 back: ∀e∈o.after,Region.binds .any e=true→e.on<i
 reads: ∀t,Operand.tmp t∈o.op.operands→ ∀j oj,ops[j]?=some oj→oj.dst=some t→ ∃e∈o.after,Region.binds .any e=true∧e.on=j
 once: ∀j oj,ops[j]?=some oj→j≠i→ ∀d,o.dst=some d→oj.dst≠some d
theorem Y5r{ops:Array Oper}(h:planG ops=true){i:Nat}{o:Oper}(hi:ops[i]?=some o):PlanGOf ops i o:=by
 have hlt:i<ops.size:=(Yeo.1 hi).1;have h:=Yew.1 h i (Yf6.2 hlt);simp only[hi,Yf9,Yfb]at h;obtain⟨⟨⟨⟨h1,h2⟩,h3⟩,h5⟩,h6⟩:=h;refine⟨?_,?_,?_,?_,?_,?_⟩
 ·intro k b hg;rw[hg]at h1;simp only[Yf9]at h1;obtain⟨h7,h8⟩:=h1;obtain⟨j,hj,h7⟩:=Array.any_eq_true.1 h7;simp only[Yf9,Yfb]at h7;refine⟨⟨o.after[j],Array.getElem_mem hj,h7.1,h7.2⟩,?_⟩
  cases hk:ops[k]? with
  | none=>rw[hk]at h8;cases h8
  | some ok =>
   rw[hk]at h8;obtain⟨d,hd⟩:=Ygl.1 h8;exact⟨ok,d,rfl,hd⟩
 ·intro c hc;simp[hc]at h2
 ·intro cs b hc;simp[hc]at h2
 ·exact Z2r
 ·exact ZN
 ·exact Z3W
theorem Ycx{ops:Array Oper}(hp:planG ops=true){listed:Array Bool}(hsz:listed.size=ops.size)(k:Nat)(hk:listed.getD k true=false):Region.ready .any ops listed≠ []:=by
 induction k using Nat.strongRecOn with
 | _ k ih =>
  have hlt:k<ops.size:=by
   rcases YeU k listed.size with h | h
   ·omega
   ·rw[Yef,YeA h]at hk
    cases hk
  by_cases hall: ∀e∈ (ops[k]).after,Region.binds .any e=true→listed.getD e.on false=true
  ·have:k∈Region.ready .any ops listed:=Yge.2 ⟨hk,ops[k],by simp[hlt],hall⟩;intro e;rw[e]at this
   cases this
  ·simp only[Ygd]at hall;obtain⟨e,he,hb,hn⟩:=hall;have hlt2:=(Y5r hp (show ops[k]?=some ops[k] by simp[hlt])).back e he hb;refine ih e.on hlt2 ?_;have:e.on<listed.size:=Z7;rw[Yef,Yep this]at hn ⊢;simpa using hn
def metG(ops:Array Oper)(aF:Act)(o:Oper):Prop:=
 match o.guard with
 | none=>True
 | some (k,b)=>match(ops[k]?).bind (·.dst)with
  | some d=>d<aF.tmps.size∧aF.eval (.tmp d)= .bool b
  | none=>False
def missG(ops:Array Oper)(aF:Act)(o:Oper):Prop:=
 match o.guard with
 | none=>False
 | some (k,b)=>match(ops[k]?).bind (·.dst)with
  | some d=>d<aF.tmps.size∧aF.eval (.tmp d)= .bool (!b)
  | none=>False
def Ye8(F:Fence)(n:Nat)(P:Program)(Ctx:World→Prop)(ops:Array Oper)(aF:Act)(o:Oper):Prop:=
 (metG ops aF o∧ ∀w,Ctx w→(∀f,o.about P w aF.eval=some f→F.fn f)∧Y9D F n P Ctx aF o w)∨
 (missG ops aF o∧(∀d,o.dst=some d→aF.eval (.tmp d)=undef)∧ ∀w,Ctx w→ ∀f,o.about P w aF.eval=some f→F.fn f)
theorem Yc6{F:Fence}{n:Nat}{P:Program}{ops:Array Oper}{Q:Exit→Act→World→Prop}{Ctx:World→Prop}{aF:Act}(hp:planG ops=true)
 (hrun: ∀ (i:Nat) (o:Oper),ops[i]?=some o→(∀d,o.dst=some d→d<aF.tmps.size)∧Ye8 F n P Ctx ops aF o)
 (hQ: ∀w,Ctx w→Q .normal aF w):
 ∀ (fuel:Nat) (listed:Array Bool) (a:Act) (w:World),Y8G ops (fun t v _=>v=aF.eval (.tmp t)) Ctx aF listed a w→((List.range ops.size).filter fun i=> !listed.getD i true).length≤fuel→wpAnyIn F n P .any ops Q fuel listed a w:=by
 have fin: ∀ (listed:Array Bool) (a:Act) (w:World),Y8G ops (fun t v _=>v=aF.eval (.tmp t)) Ctx aF listed a w→Region.ready .any ops listed= []→Q .normal a w:=by
  intro listed a w hI h0
  have hall: ∀j,listed.getD j true=true:=fun j=>by
   cases hj:listed.getD j true with
   | true=>rfl
   | false=>exact absurd h0 (Ycx hp hI.size j hj)
  have hS: ∀t,a.eval (.tmp t)=aF.eval (.tmp t):=fun t=>hI.vals t fun j oj hj hd=>by
   exact Z1a
  have haF:a=aF:=by
   have hsz:=hI.tsize
   have ht:a.tmps=aF.tmps:=by
    refine YfC fun t=> ?_
    have h1:=hS t;by_cases hlt:t<aF.tmps.size
    ·have hlt2:t<a.tmps.size:=Z7;exact Z11
    exact Z2G
   have hd2:a.defers=aF.defers:=hI.defers
   cases a
   cases aF
   exact Z4M
  rw[haF];exact hQ w hI.ctx
 intro fuel
 induction fuel with
 | zero =>
  intro listed a w hI hc;have h0:(List.range ops.size).filter (fun i=> !listed.getD i true)= []:=YeL.1 Z7
  have hr:Region.ready .any ops listed= []:=by
   refine YeQ.2 fun j hj=> ?_
   have:=YeQ.1 h0 j hj;simp only[Yg7,Yg8]at this;simp[this]
  exact⟨hr,fin listed a w hI hr⟩
 | succ fuel ih =>
  intro listed a w hI hc;refine⟨fun h0=>fin listed a w hI h0,fun i hi=> ?_⟩;obtain⟨hil,o,ho,hafter⟩:=Yge.1 hi;have hP:=Y5r hp ho;have hlt:i<ops.size:=(Yeo.1 ho).1;obtain⟨hdlt,hor⟩:=hrun i o ho
  have hval: ∀k b c,o.guard=some (k,b)→(∃d,(ops[k]?).bind (·.dst)=some d∧d<aF.tmps.size∧aF.eval (.tmp d)= .bool c)→yielded ops a.tmps k=some c:=by
   rintro k b c hg ⟨d,hkd,hdl,hv⟩;obtain⟨⟨e,he,hb,rfl⟩,ok,d',hok,hd⟩:=hP.guard k b hg;simp only[hok,Option.bind_some,hd,YeO]at hkd;subst hkd
   have hv2:a.eval (.tmp d')= .bool c:=(hI.vals d' fun j oj hj hjd=>by
    rcases Decidable.em (j=e.on)with h | h
    ·rw[h];exact hafter e he hb
    ·exact absurd hjd ((Y5r hp hok).once j oj hj h d' hd)).trans hv
   have hda:d'<a.tmps.size:=by rw[hI.tsize];exact hdl
   unfold yielded;simp only[hok,Option.bind_some,hd]
   have h3:a.tmps[d']?=some (.bool c):=by
    rw[Yep hda];have:a.tmps[d']=a.eval (.tmp d'):=by simp[Act.eval,Array.getD,hda]
    rw[this,hv2]
   rw[h3]
  have hc':((List.range ops.size).filter fun j=> !(listed.setIfInBounds i true).getD j true).length≤fuel:=by
   have:=Y1q (N:=ops.size) hlt hil;omega
  have hsame: ∀x∈o.op.operands,a.eval x=aF.eval x:=by
   intro x hx
   cases x with
   | tmp t =>
    exact hI.vals t fun j oj hj hd=>by
     obtain⟨e,he,hb,rfl⟩:=hP.reads t hx j oj hj hd;exact hafter e he hb
   | _=>rfl
  have hex:=Ygp o hP.nosel hsame;have hab:=about_congr (P:=P) o w hsame
  have next: ∀ (v:Value) (w':World),(match o.dst with | some d=>v=aF.eval (.tmp d) | none=>True)→Ctx w'→wpAnyIn F n P .any ops Q fuel (listed.setIfInBounds i true) (a.put o.dst v) w':=by
   intro v w' hv hw'
   cases hd:o.dst with
   | none =>
    refine ih _ _ _ ⟨by rw[YeB];exact hI.size,hI.defers,hI.tsize,fun t ht=> ?_,hw'⟩ hc';refine hI.vals t fun j oj hj hjd=> ?_
    have h1:=ht j oj hj hjd;rw[YM,Yed]at h1
    ·exact h1
    ·rintro⟨rfl,_⟩;rw[ho]at hj
     cases hj
     rw[hd]at hjd
     cases hjd
   | some d =>
    rw[hd]at hv;simp only at hv;have hdl:d<a.tmps.size:=by rw[hI.tsize];exact hdlt d hd
    refine ih _ _ _ ⟨by rw[YeB];exact hI.size,hI.defers,?_,fun t ht=> ?_,hw'⟩ hc'
    ·show(a.tmps.setIfInBounds d _).size=_
     rw[YeB,hI.tsize]
    ·by_cases hdt:d=t
     ·subst hdt;show(a.tmps.setIfInBounds d v).getD d undef=_
      simp[Array.getD,hdl,hv]
     ·show(a.tmps.setIfInBounds d v).getD t undef=_
      rw[Yef,Yet,Yed hdt,←Yef];refine hI.vals t fun j oj hj hjd=> ?_
      have h1:=ht j oj hj hjd;rw[YM,Yed]at h1
      ·exact h1
      ·rintro⟨rfl,_⟩;rw[ho]at hj
       cases hj
       rw[hd]at hjd
       cases hjd
       exact hdt rfl
  unfold wpOpIn;rcases hor with ⟨hmet,hr⟩ | ⟨hmiss,hund,hr⟩
  rotate_left
  ·have hwant:Region.wanted o (yielded ops a.tmps)=false:=by
    unfold missG at hmiss
    cases hg:o.guard with
    | none=>rw[hg]at hmiss;exact hmiss.elim
    | some kb =>
     obtain⟨k,b⟩:=kb;rw[hg]at hmiss
     cases hk:(ops[k]?).bind (·.dst)with
     | none=>simp only[hk]at hmiss
     | some d =>
      simp only[hk]at hmiss;have hy:=hval k b (!b) hg ⟨d,hk,hmiss.1,hmiss.2⟩
      cases b<;>simp[Region.wanted,hg,hy]
   simp only[ho,hwant];refine⟨fun f hf=>hr w hI.ctx f (by rw[←hab];exact hf),next undef w ?_ hI.ctx⟩
   cases hd:o.dst with
   | none=>trivial
   | some d=>exact(hund d hd).symm
  have hwant:Region.wanted o (yielded ops a.tmps)=true:=by
   unfold metG at hmet
   cases hg:o.guard with
   | none=>simp[Region.wanted,hg]
   | some kb =>
    obtain⟨k,b⟩:=kb;rw[hg]at hmet
    cases hk:(ops[k]?).bind (·.dst)with
    | none=>simp only[hk]at hmet
    | some d =>
     simp only[hk]at hmet;have hy:=hval k b b hg ⟨d,hk,hmet.1,hmet.2⟩;simp[Region.wanted,hg,hy]
  simp only[ho,hwant,Yfw];obtain⟨hr1,hr2⟩:=hr w hI.ctx;unfold Oper.wpIn;rw[hab,Yg9 _ _ _ hP.nodefer,hex];refine⟨hr1,?_⟩;unfold Y9D at hr2
  split at hr2
  ·rename_i v w' heq
   rw[heq];exact next v w' hr2.1 hr2.2
  ·rename_i w' heq
   rw[heq];exact next undef w' hr2.1 hr2.2
  ·rename_i f args w' heq
   rw[heq];refine⟨hr2.1,hr2.2.mono ?_⟩;rintro e w'' ⟨v,rfl,hv,hw''⟩;exact next v w'' hv hw''
  ·exact hr2.elim
theorem Y46{F:Fence}{n:Nat}{P:Program}{id:Nat}{l:List Oper}{Q:Exit→Act→World→Prop}(ps:List (Nat×Value)){aF:Act}(Ctx:World→Prop){a:Act}{w:World}(haF:Yn a ps=aF)(hm:P.follows .mixedOrders=true)
 (hk:(ps.map (·.1)).all (fun t=>(Y20 l.toArray).contains t)=true) (hp:planG l.toArray=true) (h0:Ctx w.drew)
 (hrun:YaN (fun o=>(∀d,o.dst=some d→d<aF.tmps.size)∧Ye8 F n P Ctx l.toArray aF o) l)
 (hQ: ∀w',Ctx w'→Q .normal aF w'):
 (Code.region id l.toArray true).wpIn F n P Q a w:=by
 subst haF;refine wpIn_region_any hm (Yc6 hp (fun i o hi=>Y6R hrun i o hi) hQ _ _ _ _ ⟨by simp,rfl,(Y36 a ps).symm,fun t ht=> ?_,h0⟩ ?_)
 ·have hw:t ∉ ps.map (·.1):=by
   exact Z55
  have:=Y4j a ps t hw;simp only[Act.eval,Yef,this]
 exact Z1n
end
section
open Go.Proofs.Tryz
open Go Go.RowKit Go.Maps
theorem Y9O:Keyed prog 9:=string_keyed underlying9
theorem zeroSeen(w:World):(zeroValue 4).run prog w= .ok (.bool false) w:=by kernel_rfl
def YcI(l:List (List UInt8))(v:Value):Value:=match v with | .string b=> .bool (l.contains b.data.toList) | _=> .bool false
abbrev Y1X(w:World)(b n:Nat)(l:List (List UInt8)):Prop:=Y16 w prog 9 4 (.lit (.bool false)) b n (YcI l)
theorem Y66(x:Bool): ∃p,plainElem (H:=Unit) prog 4 (.bool x)=some (.lit (.bool x),p):=⟨[],plainElem_bool underlying4 x⟩
theorem Y9P(s:List UInt8)(h:s.length≤9223372036854775807):keyOf prog 9 (.string (bs s))=some (.string s):=by
 exact Z3O
theorem Y1X.made(w:World):Y1X (w.alloc (.map #[] 0)) w.heap.size 0 []:=
 (Y16.made w (.bool false) _ (Y66 false)).fn fun v kl h=>by cases v<;>rfl
theorem Y1X.look{w:World}{b n:Nat}{l:List (List UInt8)}(h:Y1X w b n l)(s:List UInt8)(hs:s.length≤9223372036854775807):
 (Instr.lookup 114 (.map (some b)) (.string (bs s)) false).run prog w= .ok (.bool (l.contains s)) w:=by
 have:=Y16.look h Y9O underlying114 (zeroSeen w) (Y66 false) (Y9P s hs);rw[this];simp[YcI,bs]
theorem Y1X.put{w:World}{b n:Nat}{l:List (List UInt8)}(h:Y1X w b n l)(hn:n<1000000)(s:List UInt8)(hs:s.length≤9223372036854775807):
 ∃w',(Instr.mapUpdate 114 (.map (some b)) (.string (bs s)) (.bool true)).run prog w= .ok () w'∧Y1X w' b (n+1) (s :: l)∧w.grownBy w' (some b):=by
 obtain⟨w',hr,hf,hg⟩:=Y16.put h Y9O underlying114 ZS (Y9P s hs) ⟨_,Y66 true⟩;refine⟨w',hr,hf _ (by simp[YcI,bs]) (fun v hv=> ?_),hg⟩
 cases v<;>try rfl
 rename_i t
 simp only[YcI,YeM]
 have:(t.data.toList == s)=false:=by
  rw[Yen];rintro e;apply hv;rw[←e]
  cases t
  simp[bs]
 rw[this,Yg6]
end
section
open Go Go.RowKit
def Yd7(ops:Array Oper)(s:Nat):Bool:=
 (List.range ops.size).all fun i=>match ops[i]? with
  | none=>false
  | some o =>
   o.guard.isNone &&
   (match o.op with | .defer _=>false | .select _ _=>false | _=>true) &&
   o.after.all (fun e=> !Region.binds .any e || decide (e.on<i)) &&
   (i == s || o.dst.isSome) &&
   (o.op.operands.toList.all fun | .tmp t=>(List.range ops.size).all (fun j=>j == s || match ops[j]? with | some oj=>oj.dst !=some t || o.after.any (fun e=>Region.binds .any e && e.on == j) | none=>true) | _=>true) &&
   (i !=s || (List.range ops.size).all fun j=>j == i || o.after.any (fun e=>Region.binds .any e && e.on == j))
structure PlanSOf(ops:Array Oper)(s i:Nat)(o:Oper):Prop where
 guard:o.guard=none
 nodefer: ∀c,o.op≠ .defer c
 nosel: ∀cs b,o.op≠ .select cs b
 back: ∀e∈o.after,Region.binds .any e=true→e.on<i
 dst:i≠s→ ∃d,o.dst=some d
 reads: ∀t,Operand.tmp t∈o.op.operands→ ∀j oj,j≠s→ops[j]?=some oj→oj.dst=some t→ ∃e∈o.after,Region.binds .any e=true∧e.on=j
 last:i=s→ ∀j oj,ops[j]?=some oj→j≠i→ ∃e∈o.after,Region.binds .any e=true∧e.on=j
theorem Y3A{ops:Array Oper}{s:Nat}(h:Yd7 ops s=true){i:Nat}{o:Oper}(hi:ops[i]?=some o):PlanSOf ops s i o:=by
 refine Z2g ?_;intro hlt h;obtain⟨⟨⟨⟨⟨h1,h2⟩,h3⟩,h4⟩,h5⟩,h7⟩:=h;refine⟨by simpa using h1,?_,?_,?_,?_,?_,?_⟩
 ·intro c hc;simp[hc]at h2
 ·intro e he hb;simp[hb]at h2
 ·exact Z2r
 ·intro hs;rcases h4 with h4 | h4
  ·exact absurd h4 hs
  ·exact Ygl.1 h4
 ·intro t ht j oj hjs hj hd;have h:=Yew.1 h5 (.tmp t) (by simpa using ht);have h:=Yew.1 h j (Yf6.2 (Yeo.1 hj).1);have hjb:(j == s)=false:=by rw[Yen];exact hjs
  simp only[hj,hd,hjb,bne_self_eq_false,Yg6]at h;exact Z1y
 ·exact Z2C
theorem Y6g{ops:Array Oper}{s:Nat}(hp:Yd7 ops s=true){listed:Array Bool}(hsz:listed.size=ops.size)(k:Nat)(hk:listed.getD k true=false):Region.ready .any ops listed≠ []:=by
 induction k using Nat.strongRecOn with
 | _ k ih =>
  have hlt:k<ops.size:=by
   rcases YeU k listed.size with h | h
   ·omega
   ·rw[Yef,YeA h]at hk
    cases hk
  by_cases hall: ∀e∈ (ops[k]).after,Region.binds .any e=true→listed.getD e.on false=true
  ·have:k∈Region.ready .any ops listed:=Yge.2 ⟨hk,ops[k],by simp[hlt],hall⟩;intro e;rw[e]at this
   cases this
  ·simp only[Ygd]at hall;obtain⟨e,he,hb,hn⟩:=hall;have hlt2:=(Y3A hp (show ops[k]?=some ops[k] by simp[hlt])).back e he hb;refine ih e.on hlt2 ?_;have:e.on<listed.size:=Z7;rw[Yef,Yep this]at hn ⊢;simpa using hn
structure LastInv(ops:Array Oper)(s:Nat)(S:Nat→Value→World→Prop)(Ctx:World→Prop)(a0:Act)(listed:Array Bool)(a:Act)(w:World):Prop where
 size:listed.size=ops.size
 defers:a.defers=a0.defers
 tsize:a.tmps.size=a0.tmps.size
 vals: ∀t:Nat,(∀ (j:Nat) oj,j≠s→ops[j]?=some oj→oj.dst=some t→listed.getD j false=true)→S t (a.eval (.tmp t)) w
 ctx:Ctx w
theorem Y9e{F:Fence}{n:Nat}{P:Program}{ops:Array Oper}{Q:Exit→Act→World→Prop}{s:Nat}{S:Nat→Value→World→Prop}{Ctx:World→Prop}{a0:Act}(hp:Yd7 ops s=true)(hs:s<ops.size)
 (hS: ∀t v w w',S t v w→Below w.heap.size w w'→S t v w') (hC: ∀w w',Ctx w→Below w.heap.size w w'→Ctx w')
 (hrun: ∀ (i:Nat) (o:Oper) (d:Tmp),i≠s→ops[i]?=some o→o.dst=some d→d<a0.tmps.size∧Y2v F n P Q S Ctx a0.tmps.size o d)
 (hlast: ∀o a w,ops[s]?=some o→Ctx w→(∀t,S t (a.eval (.tmp t)) w)→a.tmps.size=a0.tmps.size→a.defers=a0.defers→o.wpIn F n P a w (fun a w=>Q .normal a w) Q):
 ∀ (fuel:Nat) (listed:Array Bool) (a:Act) (w:World),LastInv ops s S Ctx a0 listed a w→listed.getD s true=false→((List.range ops.size).filter fun i=> !listed.getD i true).length≤fuel→wpAnyIn F n P .any ops Q fuel listed a w:=by
 intro fuel
 induction fuel with
 | zero =>
  intro listed a w hI hsl hc;have:s∈ (List.range ops.size).filter fun i=> !listed.getD i true:=YfR.2 ⟨Yf6.2 hs,by rw[hsl];rfl⟩
  have h0:(List.range ops.size).filter (fun i=> !listed.getD i true)= []:=YeL.1 Z7;rw[h0]at this
  cases this
 | succ fuel ih =>
  intro listed a w hI hsl hc;refine⟨fun h0=>absurd h0 (Y6g hp hI.size s hsl),fun i hi=> ?_⟩;obtain⟨hil,o,ho,hafter⟩:=Yge.1 hi;have hP:=Y3A hp ho;have hlt:i<ops.size:=(Yeo.1 ho).1;have hwant:Region.wanted o (yielded ops a.tmps)=true:=Z3R;unfold wpOpIn;simp only[ho,hwant,Yfw];by_cases his:i=s
  ·subst his
   have hall: ∀j oj,ops[j]?=some oj→j≠i→listed.getD j false=true:=fun j oj hj hne=>by
    obtain⟨e,he,hb,rfl⟩:=hP.last rfl j oj hj hne;exact hafter e he hb
   refine Oper.wpIn_mono (fun a' w' h=> ?_) (hlast o a w ho hI.ctx (fun t=>hI.vals t fun j oj hne hj _=>hall j oj hj hne) hI.tsize hI.defers);refine wpAnyIn_done ?_ h _;refine YeQ.2 fun j hj=> ?_
   have hj:=Yf6.1 hj
   have:(listed.setIfInBounds i true).getD j true=true:=by
    rw[YM];by_cases h:i=j
    ·subst h;simp[hI.size,hlt]
    ·have h1:=hall j ops[j] (by simp[hj]) (fun e=>h e.symm);rw[Yef,Yep (by rw[hI.size];exact hj)]at h1;rw[Yed (by simp[h]),Yef,Yep (by rw[hI.size];exact hj)];simpa using h1
   simp[this]
  ·obtain⟨d,hd⟩:=hP.dst his;obtain⟨hdlt,hr⟩:=hrun i o d his ho hd;have hsl':(listed.setIfInBounds i true).getD s true=false:=by rw[YM,Yed (by simp[his]),hsl]
   have hc':((List.range ops.size).filter fun j=> !(listed.setIfInBounds i true).getD j true).length≤fuel:=by
    have:=Y1q (N:=ops.size) hlt hil;omega
   refine Oper.wpIn_mono (fun a' w' h=> ?_) (hr a w hI.ctx hI.tsize fun t ht=>hI.vals t fun j oj hne hj hjd=> ?_)
   ·obtain⟨v,rfl,hv,hb⟩:=h;refine ih _ _ _ ⟨by rw[YeB];exact hI.size,by rw[hd];exact hI.defers,?_,?_,hC w w' hI.ctx hb⟩ hsl' hc'
    ·rw[hd];show(a.tmps.setIfInBounds d _).size=_
     rw[YeB,hI.tsize]
    ·intro t ht;rw[hd];by_cases hdt:d=t
     ·subst hdt
      have:(a.put (some d) v).eval (.tmp d)=v:=by
       show(a.tmps.setIfInBounds d v).getD d undef=v
       have:d<a.tmps.size:=by rw[hI.tsize];exact hdlt
       simp[Array.getD,this]
      rw[this];exact hv
     ·have he:(a.put (some d) v).eval (.tmp t)=a.eval (.tmp t):=by
       show(a.tmps.setIfInBounds d v).getD t undef=a.tmps.getD t undef
       rw[Yef,Yet,Yed hdt,Yef]
      rw[he];refine hS _ _ _ _ (hI.vals t fun j oj hne hj hjd=> ?_) hb;have h1:=ht j oj hne hj hjd;rw[YM,Yed]at h1
      ·exact h1
      ·rintro⟨rfl,_⟩;rw[ho]at hj
       cases hj
       rw[hd]at hjd
       cases hjd
       exact hdt rfl
   ·obtain⟨e,he,hb,rfl⟩:=hP.reads t ht j oj hne hj hjd;exact hafter e he hb
def Y4P(ops:Array Oper)(s:Nat):List Nat:=(ops.toList.take s).filterMap (·.dst)
theorem Z1I{P:Prop}(h:P:=by
 intro hw
 obtain⟨oj,hoj,hd⟩:=Yg1.1 hw
 obtain⟨j,hj,rfl⟩:=YfF.1 hoj
 have hjs:j<s:=by simp at hj;exact Z7
 have hjl:j<l.length:=Z7
 have:=ht j _ Z7 (show l.toArray[j]?=some l[j] by simp[hjl]) (by simpa using hd)
 rw[Yef,Yfh]at this
 split at this<;>simp at this):P:=h
theorem Z1N{P Q:Prop}(k:Q)(h:Q→P:=by
 have hw:t ∉ Y4P l.toArray s:=by
  exact Z1I
 refine fun z_=>?_
 revert hw
 exact z_):P:=h k
theorem Z4G{P:Prop}(h:P:=by
 have hsl:s<l.toArray.size:=Zd
 rw[Yef,Yfh,Yei hsl]
 rfl):P:=h
theorem Z54{P:Prop}(h:P:=by
 unfold wpListIn at hl
 rw[Yei (by simp[Region.wanted,(Y3A hp hi).guard])]at hl
 exact hl):P:=h
theorem Y3K{F:Fence}{n:Nat}{P:Program}{id:Nat}{l:List Oper}{Q:Exit→Act→World→Prop}(s:Nat)(ps:List (Nat×Value)){aF:Act}(Ctx:World→Prop){a:Act}{w:World}(haF:Yn a ps=aF)(hm:P.follows .mixedOrders=true)
 (hs:s+1=l.length) (hk:(ps.map (·.1)).all (fun t=>(Y4P l.toArray s).contains t)=true)
 (hp:Yd7 l.toArray s=true) (hC: ∀w w',Ctx w→Below w.heap.size w w'→Ctx w')
 (h0:Ctx w.drew)
 (hrun:Y2K (fun _ o d=>d<aF.tmps.size∧ ∀w,Ctx w→(∀f,o.about P w aF.eval=some f→F.fn f)∧Y76 F n P aF o d w) 0 (l.take s))
 {o:Oper} (ho:l[s]?=some o) (hlast: ∀w',Ctx w'→wpListIn F n P l.toArray Q [o] aF w'):
 (Code.region id l.toArray true).wpIn F n P Q a w:=by
 subst haF;have hsz:a.tmps.size=(Yn a ps).tmps.size:=(Y36 a ps).symm
 have hkeep: ∀t:Nat,t ∉ Y4P l.toArray s→a.tmps[t]?= (Yn a ps).tmps[t]?:=fun t ht=>by
  have:=Y4j a ps t fun h=>by
   have:=Yew.1 hk t h;exact ht Z2Y
  exact this.symm
 refine wpIn_region_any hm (Y9e (a0:=a) (s:=s) (S:=fun t v _=>v=(Yn a ps).eval (.tmp t)) (Ctx:=Ctx) hp Zd (fun _ _ _ _ h _=>h) hC (fun i o d his hi hod=> ?_) (fun o' a' w' hi hc hS hss hdd=> ?_) _ _ _ _ ⟨by simp,rfl,rfl,fun t ht=> ?_,h0⟩ ?_ ?_)
 ·have hP:=Y3A hp hi;have hil:i<l.length:=by simpa using(Yeo.1 hi).1
  obtain⟨hlt,hr⟩:=Y2h hrun i o d (by
   rw[Yf1,Yfg,Yei (by omega)]
   simpa using hi) hod
  refine⟨by rw[hsz];exact hlt,fun a2 w hc hN hR=> ?_⟩
  have hsame: ∀x∈o.op.operands,a2.eval x=(Yn a ps).eval x:=by
   intro x hx
   cases x with
   | tmp t=>exact hR t hx
   | _=>rfl
  exact Z1i
 ·have haF:a'=Yn a ps:=by
   have ht:a'.tmps=(Yn a ps).tmps:=by
    refine YfC fun t=> ?_
    have h1:=hS t;by_cases hlt:t< (Yn a ps).tmps.size
    ·have hlt2:t<a'.tmps.size:=Z7;exact Z11
    exact Z2G
   have hd2:a'.defers=(Yn a ps).defers:=hdd
   cases a'
   generalize Yn a ps=aF at *
   cases aF
   exact Z4M
  rw[haF]
  obtain rfl:o'=o:=by
   have:l[s]?=some o':=by simpa using hi
   rw[ho]at this;exact(Yey this).symm
  have hl:=hlast w' hc;exact Z54
 ·refine Z1N ?_;intro hw;have e:=hkeep t hw;simp only[Act.eval,Yef];rw[e]
 ·exact Z4G
 exact Z1n
end
section
open Go Go.RowKit
def Y5h(D:List Nat)(R:Nat→Value→World→Prop)(F:Fence)(n:Nat)(P:Program)(aF:Act)(o:Oper)(d:Tmp)(w:World):Prop:=
 match(execOp aF.eval o).run P w with
 | .ok (.value v) w'=>(if d∈D then R d v w' else v=aF.eval (.tmp d))∧Below w.heap.size w w'
 | .ok (.enter f args) w'=>(F.depth.isSome=true→1≤n)∧CallsIn F (n - 1) P f args w' (fun e w''=> ∃v,e= .returned v∧(if d∈D then R d v w'' else v=aF.eval (.tmp d))∧Below w.heap.size w w'')
 | _=>False
def Y35(a:Act)(ps:List (Nat×Option Value))(g:Nat→Value):Act:=Yn a (ps.map fun p=>(p.1,p.2.getD (g p.1)))
def Y2r(t:Nat)(ps:List (Nat×Option Value)):Option (Option Value):=ps.foldl (fun r p=>if p.1=t then some p.2 else r) none
theorem Yc9(t:Nat)(ps:List (Nat×Option Value))(g:Nat→Value)(x:Array Value)(r:Option (Option Value))(h:x[t]?=match r with | some o=>some (o.getD (g t)) | none=>x[t]?)(hlt:t<x.size):
 ((ps.map fun p=>(p.1,p.2.getD (g p.1))).foldl (fun x p=>x.setIfInBounds p.1 p.2) x)[t]?=match ps.foldl (fun r p=>if p.1=t then some p.2 else r) r with | some o=>some (o.getD (g t)) | none=>x[t]?:=by
 induction ps generalizing x r with
 | nil=>exact h
 | cons p ps ih =>
  simp only[YeY,YeP];by_cases hp:p.1=t
  ·rw[Yei hp]
   have h2:(x.setIfInBounds p.1 (p.2.getD (g p.1)))[t]?=some (p.2.getD (g t)):=by
    rw[Yet,Yei hp,Yei Z7,hp]
   have:=ih (x.setIfInBounds p.1 (p.2.getD (g p.1))) (some p.2) h2 (by simpa using hlt);rw[this]
   have hn: ∀ (l:List (Nat×Option Value)) (q:Option Value),(l.foldl (fun r p=>if p.1=t then some p.2 else r) (some q)).isSome=true:=by
    intro l
    induction l with
    | nil=>intro q;rfl
    | cons y l ih=>intro q;rw[YeP];split<;>exact ih _
   have:=hn ps p.2
   cases hq:ps.foldl (fun r p=>if p.1=t then some p.2 else r) (some p.2)with
   | some o=>rfl
   | none=>rw[hq]at this;cases this
  ·rw[Yed hp]
   have h2:(x.setIfInBounds p.1 (p.2.getD (g p.1)))[t]?=x[t]?:=by
    rw[Yet,Yed hp]
   have:=ih (x.setIfInBounds p.1 (p.2.getD (g p.1))) r (by rw[h2];exact h) (by simpa using hlt);rw[this,h2]
theorem Y7j(a:Act)(ps:List (Nat×Option Value))(g:Nat→Value)(t:Nat)(hlt:t<a.tmps.size):(Y35 a ps g).tmps[t]?=match Y2r t ps with | some o=>some (o.getD (g t)) | none=>a.tmps[t]?:=
 Yc9 t ps g a.tmps none rfl hlt
theorem Yad(a:Act)(ps:List (Nat×Option Value))(g:Nat→Value):(Y35 a ps g).tmps.size=a.tmps.size:=Y36 a _
theorem Y6t(a:Act)(ps:List (Nat×Option Value))(g:Nat→Value)(t:Nat)(hlt:t<a.tmps.size):(Y35 a ps g).eval (.tmp t)=match Y2r t ps with | some o=>o.getD (g t) | none=>a.eval (.tmp t):=by
 have:=Y7j a ps g t hlt;simp only[Act.eval,Yef,this]
 cases Y2r t ps<;>rfl
theorem Y6F{t:Nat}{ps:List (Nat×Option Value)}(h:t ∉ ps.map (·.1)):Y2r t ps=none:=by
 unfold Y2r
 have: ∀ (l:List (Nat×Option Value)) (r:Option (Option Value)),t ∉ l.map (·.1)→l.foldl (fun r p=>if p.1=t then some p.2 else r) r=r:=by
  intro l
  induction l with
  | nil=>intro r _;rfl
  | cons y l ih =>
   intro r h;simp only[YeY,Yf0,not_or]at h;rw[YeP,Yed (fun e=>h.1 e.symm)];exact ih r h.2
 exact this ps none h
def Y2k(ps:List (Nat×Option Value)):List Nat:=ps.filterMap fun p=>if p.2.isNone then some p.1 else none
def Ybq(a:Act)(ps:List (Nat×Option Value))(R:Nat→Value→World→Prop)(t:Nat)(v:Value)(w:World):Prop:=
 match Y2r t ps with
 | some none=>R t v w
 | some (some u)=>v=u
 | none=>v=a.eval (.tmp t)
theorem Z2i{P:Prop}(h:P:=by
 have hol:o∈l:=by
  have:=Array.mem_of_getElem? hi
  exact Z2Y
 have hr1:d<a.tmps.size:=(hr fun _=>undef).1
 exact⟨hr1,rel_op D R ps Ctx hD hP.nodefer hP.nosel hod (hops o hol) ⟨hr1,fun g w hc hg=>by rw[haF g];exact(hr g).2 w hc hg⟩⟩):P:=h
theorem Z4C{P:Prop}(h:P:=by
 intro t v w w' h hb
 unfold Ybq at h ⊢
 split at h
 ·exact hR t v w w' h hb
 ·exact h
 ·exact h):P:=h
section
variable {F:Fence}{n:Nat}{P:Program}{id:Nat}{l:List Oper}{Q:Exit→Act→World→Prop}(D:List Nat)(R:Nat→Value→World→Prop)(ps:List (Nat×Option Value)){aF:(Nat→Value)→Act}(Ctx:World→Prop){a:Act}{w:World}
theorem rel_op(hD: ∀t,t∈D ↔ Y2r t ps=some none){o:Oper}{d:Tmp}(hnd: ∀c,o.op≠ .defer c)(hns: ∀cs b,o.op≠ .select cs b)(hd:o.dst=some d)(hopt: ∀t,Operand.tmp t∈o.op.operands→t<a.tmps.size)
 (hr:d<a.tmps.size∧ ∀g w,Ctx w→(∀t,t∈D→Operand.tmp t∈o.op.operands→R t (g t) w)→(∀f,o.about P w (Y35 a ps g).eval=some f→F.fn f)∧Y5h D R F n P (Y35 a ps g) o d w):
 Y2v F n P Q (Ybq a ps R) Ctx a.tmps.size o d:=by
 intro a2 w hc hN hS
 let g:Nat→Value:=fun t=>a2.eval (.tmp t)
 have hev: ∀t,t<a.tmps.size→Ybq a ps R t (a2.eval (.tmp t)) w→a2.eval (.tmp t)=(Y35 a ps g).eval (.tmp t):=by
  intro t ht hs;rw[Y6t a ps g t ht];unfold Ybq at hs
  cases hl:Y2r t ps with
  | none=>rw[hl]at hs;exact hs
  | some o =>
   rw[hl]at hs
   cases o with
   | none=>rfl
   | some u=>exact hs
 have hsame: ∀x∈o.op.operands,a2.eval x=(Y35 a ps g).eval x:=by
  intro x hx
  cases x with
  | tmp t=>exact hev t (hopt t hx) (hS t hx)
  | _=>rfl
 obtain⟨h1,h2⟩:=hr.2 g w hc fun t ht hto=>by
  have:=hS t hto;unfold Ybq at this;rw[(hD t).1 ht]at this;exact this
 have hex:=Ygp o hns hsame;have hab:=about_congr (P:=P) o w hsame
 have hT: ∀v w',(if d∈D then R d v w' else v=(Y35 a ps g).eval (.tmp d))→Ybq a ps R d v w':=by
  intro v w' h;unfold Ybq;by_cases hdD:d∈D
  ·rw[Yei hdD]at h;rw[(hD d).1 hdD];exact h
  ·rw[Yed hdD,Y6t a ps g d hr.1]at h
   cases hl:Y2r d ps with
   | none=>rw[hl]at h;exact h
   | some o =>
    rw[hl]at h
    cases o with
    | none=>exact absurd ((hD d).2 hl) hdD
    | some u=>exact h
 unfold Oper.wpIn;rw[hab,Yg9 _ _ _ hnd,hex];refine⟨h1,?_⟩;unfold Y5h at h2
 split at h2
 ·rename_i v w' heq
  rw[heq];exact⟨v,rfl,hT v w' h2.1,h2.2⟩
 ·rename_i f args w' heq
  rw[heq];refine⟨h2.1,h2.2.mono ?_⟩;rintro e w'' ⟨v,rfl,hv,hb⟩;exact⟨v,rfl,hT v w'' hv,hb⟩
 ·exact h2.elim
theorem YcY(hD: ∀t,t∈D ↔ Y2r t ps=some none)(hDs: ∀t∈D,t<a.tmps.size){a2:Act}(hS: ∀t,Ybq a ps R t (a2.eval (.tmp t)) w)(hs:a2.tmps.size=a.tmps.size)(hdd:a2.defers=a.defers):
 a2=Y35 a ps (fun t=>a2.eval (.tmp t))∧ ∀t∈D,R t (a2.eval (.tmp t)) w:=by
 constructor
 ·have ht:a2.tmps=(Y35 a ps (fun t=>a2.eval (.tmp t))).tmps:=by
   refine YfC fun t=> ?_
   by_cases hlt:t<a.tmps.size
   ·rw[Y7j a ps _ t hlt];have h1:=hS t;unfold Ybq at h1;have hlt2:t<a2.tmps.size:=Z7;have he:a2.eval (.tmp t)=a2.tmps[t]:=by simp[Act.eval,Array.getD,hlt2]
    cases hl:Y2r t ps with
    | none =>
     rw[hl]at h1;simp only;have:a.eval (.tmp t)=a.tmps[t]:=by simp[Act.eval,Array.getD,hlt]
     rw[Yep hlt2,Yep hlt,←he,h1,this]
    | some o =>
     rw[hl]at h1;rw[Yep hlt2,←he]
     cases o with
     | none=>rfl
     | some u=>simp only at h1;rw[h1];rfl
   ·rw[YeA Z7,YeA (by rw[Yad];exact Z7)]
  have hd2:a2.defers=(Y35 a ps (fun t=>a2.eval (.tmp t))).defers:=hdd;generalize Y35 a ps (fun t=>a2.eval (.tmp t))=b at *
  cases a2
  cases b
  exact Z4M
 ·intro t ht;have h1:=hS t;unfold Ybq at h1;rw[(hD t).1 ht]at h1;exact h1
def relB(D:List Nat)(slots:List Nat)(rel:List Nat)(N:Nat)(ds:List Nat)(ops:List Oper):Bool:=
 decide (slots.Nodup) && D.all (fun t=>rel.contains t) && rel.all (fun t=>D.contains t) && slots.all (fun t=>ds.contains t && decide (t<N)) && ops.all fun o=>o.op.operands.toList.all fun | .tmp t=>decide (t<N) | _=>true
theorem Yc0{ps:List (Nat×Option Value)}(hn:(ps.map (·.1)).Nodup)(t:Nat):Y2r t ps=some none ↔ t∈Y2k ps:=by
 induction ps with
 | nil=>simp[Y2r,Y2k]
 | cons p ps ih =>
  simp only[YeY,List.nodup_cons]at hn;have ih:=ih hn.2
  have hstep:Y2r t (p :: ps)=if p.1=t then some p.2 else Y2r t ps:=by
   unfold Y2r;rw[YeP];by_cases hp:p.1=t
   ·rw[Yei hp,Yei hp]
    have: ∀ (l:List (Nat×Option Value)) (r:Option (Option Value)),t ∉ l.map (·.1)→l.foldl (fun r p=>if p.1=t then some p.2 else r) r=r:=by
     intro l
     induction l with
     | nil=>intro r _;rfl
     | cons y l ih =>
      intro r h;simp only[YeY,Yf0,not_or]at h;rw[YeP,Yed (fun e=>h.1 e.symm)];exact ih r h.2
    exact this ps _ (hp ▸hn.1)
   ·rw[Yed hp,Yed hp]
  have hrs:t∈Y2k (p :: ps) ↔ (p.2.isNone=true∧p.1=t)∨t∈Y2k ps:=by
   unfold Y2k;rw[List.filterMap_cons];by_cases hq:p.2.isNone
   ·rw[Yei hq,Yf0];exact⟨fun h=>h.elim (fun e=> .inl ⟨hq,e.symm⟩) .inr,fun h=>h.elim (fun e=> .inl e.2.symm) .inr⟩
   ·rw[Yed hq];exact⟨.inr,fun h=>h.elim (fun e=>absurd e.1 hq) id⟩
  rw[hstep,hrs];by_cases hp:p.1=t
  ·rw[Yei hp]
   have hnt:t ∉ Y2k ps:=by
    intro h;unfold Y2k at h;obtain⟨q,hq,hqt⟩:=Yg1.1 h
    split at hqt
    ·simp only[YeO]at hqt;exact hn.1 (by rw[hp,←hqt];exact Yg4.2 ⟨q,hq,rfl⟩)
    ·cases hqt
   cases hq:p.2<;>simp[hp,hnt]
  ·rw[Yed hp,ih];simp[hp]
theorem Y92{D:List Nat}{ps:List (Nat×Option Value)}{N:Nat}{ds:List Nat}{ops:List Oper}(h:relB D (ps.map (·.1)) (Y2k ps) N ds ops=true):
 (∀t,t∈D ↔ Y2r t ps=some none)∧(∀t∈D,t<N)∧(∀t,t∈ps.map (·.1)→t∈ds)∧ ∀o∈ops,∀t,Operand.tmp t∈o.op.operands→t<N:=by
 simp only[relB,Yf9,YfS,Yew,Yfj]at h;obtain⟨⟨⟨⟨h1,h2⟩,h3⟩,h4⟩,h5⟩:=h
 have hD: ∀t,t∈D ↔ Y2r t ps=some none:=fun t=>by
  rw[Yc0 h1];exact⟨h2 t,h3 t⟩
 refine⟨hD,fun t ht=> ?_,fun t ht=>(h4 t ht).1,fun o ho t ht=> ?_⟩
 ·have:=h2 t ht;unfold Y2k at this;obtain⟨q,hq,hqt⟩:=Yg1.1 this
  split at hqt
  ·simp only[YeO]at hqt;exact(h4 t (Yg4.2 ⟨q,hq,hqt⟩)).2
  ·cases hqt
 ·have:=h5 o ho (.tmp t) (by simpa using ht);exact Z2Y
theorem YbH(haF: ∀g,Y35 a ps g=aF g)(hm:P.follows .mixedOrders=true)(hp:Y6v l.toArray l.toArray.size=true)
 (hk:relB D (ps.map (·.1)) (Y2k ps) a.tmps.size (Y20 l.toArray) l=true) (hR: ∀t v w w',R t v w→Below w.heap.size w w'→R t v w') (hC: ∀w w',Ctx w→Below w.heap.size w w'→Ctx w') (h0:Ctx w.drew)
 (hrun: ∀g,Y2K (fun _ o d=>d<a.tmps.size∧ ∀w,Ctx w→(∀t,t∈D→Operand.tmp t∈o.op.operands→R t (g t) w)→(∀f,o.about P w (aF g).eval=some f→F.fn f)∧Y5h D R F n P (aF g) o d w) 0 l)
 (hQ: ∀g w',Ctx w'→(∀t∈D,R t (g t) w')→Q .normal (aF g) w'):
 (Code.region id l.toArray true).wpIn F n P Q a w:=by
 obtain⟨hD,hDs,hds,hops⟩:=Y92 hk;refine wpIn_region_any hm (Y6C (a0:=a) (S:=Ybq a ps R) (Ctx:=Ctx) hp ?_ hC (fun i o d hi hod=> ?_) (fun a' w' hc hS hs hdd=> ?_) _ _ _ _ ⟨by simp,rfl,rfl,fun t ht=> ?_,h0⟩ ?_)
 ·exact Z4C
 ·have hP:=Y38 hp hi;have hr:=fun g=>Y2h (hrun g) i o d hi hod
  exact Z2i
 ·obtain⟨he,hg⟩:=YcY D R ps hD hDs hS hs hdd;rw[he,haF];exact hQ _ w' hc hg
 ·have hw:t ∉ Y20 l.toArray:=by
   intro hw;exact Zm
  unfold Ybq;rw[Y6F (fun h=>hw (hds t h))]
 exact Z1n
theorem Y45(s:Nat)(haF: ∀g,Y35 a ps g=aF g)(hm:P.follows .mixedOrders=true)(hs:s+1=l.length)(hp:Yd7 l.toArray s=true)
 (hk:relB D (ps.map (·.1)) (Y2k ps) a.tmps.size (Y4P l.toArray s) l=true) (hR: ∀t v w w',R t v w→Below w.heap.size w w'→R t v w') (hC: ∀w w',Ctx w→Below w.heap.size w w'→Ctx w') (h0:Ctx w.drew)
 (hrun: ∀g,Y2K (fun _ o d=>d<a.tmps.size∧ ∀w,Ctx w→(∀t,t∈D→Operand.tmp t∈o.op.operands→R t (g t) w)→(∀f,o.about P w (aF g).eval=some f→F.fn f)∧Y5h D R F n P (aF g) o d w) 0 (l.take s))
 {o:Oper} (ho:l[s]?=some o) (hlast: ∀g w',Ctx w'→(∀t∈D,R t (g t) w')→wpListIn F n P l.toArray Q [o] (aF g) w'):
 (Code.region id l.toArray true).wpIn F n P Q a w:=by
 obtain⟨hD,hDs,hds,hops⟩:=Y92 hk;refine wpIn_region_any hm (Y9e (a0:=a) (s:=s) (S:=Ybq a ps R) (Ctx:=Ctx) hp Zd ?_ hC (fun i o d his hi hod=> ?_) (fun o' a' w' hi hc hS hss hdd=> ?_) _ _ _ _ ⟨by simp,rfl,rfl,fun t ht=> ?_,h0⟩ ?_ ?_)
 ·exact Z4C
 ·have hP:=Y3A hp hi;have hil:i<l.length:=by simpa using(Yeo.1 hi).1
  have hi2:(l.take s).toArray[i]?=some o:=by
   rw[Yf1,Yfg,Yei Z7];simpa using hi
  have hr:=fun g=>Y2h (hrun g) i o d hi2 hod
  exact Z2i
 ·obtain⟨he,hg⟩:=YcY D R ps hD hDs hS hss hdd;rw[he,haF]
  obtain rfl:o'=o:=by
   have:l[s]?=some o':=by simpa using hi
   rw[ho]at this;exact(Yey this).symm
  have hl:=hlast _ w' hc hg;exact Z54
 ·refine Z1N ?_;intro hw;unfold Ybq;rw[Y6F (fun h=>hw (hds t h))]
 ·exact Z4G
 exact Z1n
end
end
end Go.Proofs.YtfadikchijkcfaaGreatDoor
