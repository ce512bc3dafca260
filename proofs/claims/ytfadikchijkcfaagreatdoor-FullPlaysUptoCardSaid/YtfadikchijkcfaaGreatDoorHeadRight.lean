/- A head by value, and what is wrong with it: plain laws. -/
import Derived.Test.YtfadikchijkcfaaGreatDoorParsePure
import Derived.Test.YtfadikchijkcfaaGreatDoorHeadFields
import Derived.Test.YtfadikchijkcfaaGreatDoorField
import Derived.Test.YtfadikchijkcfaaGreatDoorPUint
import Derived.Test.YtfadikchijkcfaaGreatDoorAhs
import Derived.Deep.QuietTactic
import Derived.BigQuiet
set_option linter.unusedVariables false
set_option linter.unusedSectionVars false
set_option linter.unusedSimpArgs false
set_option maxRecDepth 100000
set_option maxHeartbeats 4000000
namespace Go.Proofs.YtfadikchijkcfaaGreatDoor
section
open Go Go.RowKit
theorem Z2b{P:Prop}(h:P:=by
 refine BitVec.eq_of_getLsbD_eq fun i hi=> ?_
 have:=Yeg (fun z:BitVec 64=>z.getLsbD i) h
 simp only[BitVec.getLsbD_and,BitVec.getLsbD_not,BitVec.getLsbD_zero,hi,decide_true,Bool.true_and]at this ⊢
 cases hx:x.getLsbD i<;>cases hy:y.getLsbD i<;>simp[hx,hy]at this ⊢):P:=h
theorem YdY(x y:BitVec 64):(x &&& ~~~y).toNat=0 ↔ x &&& y=x:=by
 constructor
 ·intro h;have h:x &&& ~~~y=0#64:=BitVec.eq_of_toNat_eq Z3o;exact Z2b
 ·intro h
  have:x &&& ~~~y=0#64:=by
   exact Z2b
  rw[this];rfl
theorem Z2u{P:Prop}(h:P:=by
 intro h
 refine BitVec.eq_of_getLsbD_eq fun i hi=> ?_
 have:=Yeg (fun z:BitVec 64=>z.getLsbD i) h
 simp only[BitVec.getLsbD_and,BitVec.getLsbD_or]at this ⊢
 cases hx:x.getLsbD i<;>cases hy:y.getLsbD i<;>simp[hx,hy]at this ⊢):P:=h
theorem bv_or(x y:BitVec 64):x ||| y=y ↔ x &&& y=x:=by
 constructor
 ·exact Z2u
 ·exact Z2u
def Y4J(f m:Nat):Bool:=decide (f &&& m≠f)
theorem nat_bv(f m:Nat)(hf:f<9223372036854775808)(hm:m<256):(BitVec.ofNat 64 f &&& BitVec.ofNat 64 m=BitVec.ofNat 64 f) ↔ f &&& m=f:=by
 rw[←BitVec.toNat_inj,BitVec.toNat_and,YfO,YfO,YfZ (show f<2 ^ 64 from Z7),YfZ (show m<2 ^ 64 from Z7)]
theorem Y9y(f m:Nat)(hf:f<9223372036854775808)(hm:m<256):(bits .andNot .i64 (f:Int) (m:Int) !=0)=Y4J f m:=by
 unfold bits;show(IntKind.i64.wrap (((BitVec.ofInt 64 (f:Int) &&& ~~~ BitVec.ofInt 64 (m:Int)).toNat:Nat):Int) !=0)=_
 have h1:=YdY (BitVec.ofNat 64 f) (BitVec.ofNat 64 m);rw[nat_bv f m hf hm]at h1;rw[Ygc,Ygc]
 have hle:(BitVec.ofNat 64 f &&& ~~~ BitVec.ofNat 64 m).toNat≤f:=by
  rw[BitVec.toNat_and,YfO,YfZ (show f<2 ^ 64 from Z7)];exact Nat.and_le_left
 generalize (BitVec.ofNat 64 f &&& ~~~ BitVec.ofNat 64 m).toNat=z at *;have hw:IntKind.i64.wrap (z:Int)=z:=ZZ;rw[hw,Y4J];by_cases h:f &&& m=f
 ·simp[h,h1.2 h]
 ·have:z≠0:=fun e=>h (h1.1 e)
  simp[h,this]
theorem or_flags(f m:Nat)(hf:f<9223372036854775808)(hm:m<256):(bits .or .i64 (f:Int) (m:Int) != (m:Int))=Y4J f m:=by
 unfold bits;show(IntKind.i64.wrap (((BitVec.ofInt 64 (f:Int) ||| BitVec.ofInt 64 (m:Int)).toNat:Nat):Int) != (m:Int))=_
 have h1:=bv_or (BitVec.ofNat 64 f) (BitVec.ofNat 64 m);rw[nat_bv f m hf hm,←BitVec.toNat_inj,YfO m,YfZ (show m<2 ^ 64 from Z7)]at h1;rw[Ygc,Ygc]
 have hlt:(BitVec.ofNat 64 f ||| BitVec.ofNat 64 m).toNat<2 ^ 63:=by
  rw[BitVec.toNat_or,YfO,YfO,YfZ (show f<2 ^ 64 from Z7),YfZ (show m<2 ^ 64 from Z7)];exact Nat.or_lt_two_pow Z7 Z7
 generalize (BitVec.ofNat 64 f ||| BitVec.ofNat 64 m).toNat=z at *;have hw:IntKind.i64.wrap (z:Int)=z:=ZZ;rw[hw,Y4J];by_cases h:f &&& m=f
 ·simp[h,h1.2 h]
 ·have:z≠m:=fun e=>h (h1.1 e)
  have h2: ¬(z:Int)=(m:Int):=Z7;simp[h,h2]
def YQ:List FR→List Nat→Nat→Option Nat
 | f :: fs,v :: vs,i=>if 256 ^ f.size≤v then some i else YQ fs vs (i+1)
 | _,_,_=>none
theorem Y2Q(fs:List FR)(vs:List Nat)(k:Nat)(f:FR)(v:Nat)(hf:fs[k]?=some f)(hv:vs[k]?=some v):
 YQ (fs.drop k) (vs.drop k) k=if 256 ^ f.size≤v then some k else YQ (fs.drop (k+1)) (vs.drop (k+1)) (k+1):=by
 obtain⟨h1,h2⟩:=Yek.1 hf;obtain⟨h3,h4⟩:=Yek.1 hv;rw[Yev h1,Yev h3,YQ,h2,h4]
def Y2D(op:Int)(now:Bool)(flags:Int)(m:Nat):Bool:=(now && decide (32≤op)) || decide (flags<0) || Y4J flags.toNat m
def Yo(op:Int)(now:Bool)(flags:Int)(vs:List Nat):Nat×Int:=
 match Y1e op with
 | none=>(1,-1)
 | some r=>if Y2D op now flags r.flags then(3,-1)else if r.fields.length≠vs.length then(7,-1)else
  match YQ r.fields vs 0 with
  | some i=>(2,(i:Int))
  | none=>(0,-1)
def Yb(vs:List Nat):List Value:=vs.map fun(x:Nat)=>Value.int .u64 (x:Int)
def Y1A(op:Int)(now:Bool)(flags:Int)(v:Value):Value:= .agg #[.int .i64 op,.bool now,.int .i64 flags,v]
end
section
open Go Go.RowKit
def atN(fs:List FR)(n:List UInt8):Nat→Int
 | 0=> -1
 | k+1=>if(fs[k]?.map FR.name)=some n then(k:Int)else atN fs n k
theorem Ybk(fs:List FR)(n:List UInt8)(k:Nat)(f:FR)(h:fs[k]?=some f):atN fs n (k+1)=if f.name=n then(k:Int)else atN fs n k:=by
 rw[atN,h];exact Z2t
theorem Ye0(fs:List FR)(n:List UInt8)(k:Nat): -1≤atN fs n k∧atN fs n k< (k:Int):=by
 induction k with
 | zero=>simp[atN]
 | succ k ih =>
  rw[atN]
  split<;>omega
def hasN(fs:List FR)(n:List UInt8)(k:Nat):Bool:=(fs.take k).any fun f=>decide (f.name=n)
theorem YdB(fs:List FR)(n:List UInt8)(k:Nat)(f:FR)(h:fs[k]?=some f):hasN fs n (k+1)=(hasN fs n k || decide (f.name=n)):=by
 refine Z43 ?_;intro h1 h2;unfold hasN;rw[Yeq h1,h2];exact Z2t
theorem hasN_at(fs:List FR)(n:List UInt8)(k:Nat)(hk:k≤fs.length):hasN fs n k=decide (0≤atN fs n k):=by
 induction k with
 | zero=>simp[hasN,atN]
 | succ k ih =>
  have hf:fs[k]?=some fs[k]:=Yec Z7;rw[YdB fs n k _ hf,Ybk fs n k _ hf,ih Z7];by_cases h:fs[k].name=n
  ·simp[h]
  ·simp[h]
theorem atN_name(fs:List FR)(n:List UInt8)(k j:Nat)(hk:k≤fs.length)(h:atN fs n k=(j:Int)):(fs[j]?.map FR.name)=some n:=by
 induction k with
 | zero=>simp[atN]at h<;>omega
 | succ k ih =>
  rw[atN]at h
  split at h
  ·rename_i hn
   obtain rfl:k=j:=Z7;exact hn
  ·exact ih Z7 h
def Y2C(g:List UInt8→Nat)(n:List UInt8)(x:Nat)(m:List UInt8):Nat:=if m=n then x else g m
theorem map_setN(fs:List FR)(hd:(fs.map FR.name).Nodup)(g:List UInt8→Nat)(n:List UInt8)(x:Nat)(j:Nat)(h:(fs[j]?.map FR.name)=some n):
 fs.map (fun f=>Y2C g n x f.name)=(fs.map (fun f=>g f.name)).set j x:=by
 refine List.ext_getElem? fun i=> ?_
 rw[YeR,List.getElem?_set];obtain⟨f,hf,hfn⟩:=Option.map_eq_some_iff.1 h;obtain⟨hj,hj2⟩:=Yek.1 hf;by_cases hij:j=i
 ·subst hij;rw[Yei rfl,Yei (by simpa using hj),hf];simp[Y2C,hfn]
 ·rw[Yed hij,YeR]
  cases hi:fs[i]? with
  | none=>rfl
  | some f2 =>
   obtain⟨hi1,hi2⟩:=Yek.1 hi
   have hne:f2.name≠n:=by
    intro e;apply hij;have h1:(fs.map FR.name)[j]'(by simpa using hj)=n:=by simp[hj2,hfn]
    have h2:(fs.map FR.name)[i]'(by simpa using hi1)=n:=by simp[hi2,e]
    exact(List.getElem_inj hd).1 (h1.trans h2.symm)
   simp[Y2C,hne]
theorem YbT:Yd.all (fun r=>decide ((r.fields.map FR.name).Nodup))=true:=by decide +kernel
theorem Yaj(r:HR)(h:r∈Yd):(r.fields.map FR.name).Nodup:=by
 simpa using Yew.1 YbT r h
def mkG(fs:List FR)(vs:List Nat):List (List UInt8)→Nat→(List UInt8→Nat)→Nat×List Nat
 | [],_,g=>(0,fs.map fun f=>g f.name)
 | n :: ns,i,g=>if hasN fs n fs.length=false then(5,[])else match vs[i]? with
  | none=>(7,[])
  | some x=>mkG fs vs ns (i+1) (Y2C g n x)
def Y3L(op flags:Int)(ns:List (List UInt8))(vs:List Nat):Nat×Int×List Nat:=
 match Y1e op with
 | none=>(1,-1,[])
 | some r=>if(mkG r.fields vs ns 0 fun _=>0).1≠0 then((mkG r.fields vs ns 0 fun _=>0).1,-1,[])
  else if(Yo op false flags (mkG r.fields vs ns 0 fun _=>0).2).1≠0 then((Yo op false flags (mkG r.fields vs ns 0 fun _=>0).2).1,(Yo op false flags (mkG r.fields vs ns 0 fun _=>0).2).2,[])
  else(0,-1,(mkG r.fields vs ns 0 fun _=>0).2)
theorem mkG_drop(fs:List FR)(vs:List Nat)(ns:List (List UInt8))(i:Nat)(g:List UInt8→Nat)(n:List UInt8)(h:ns[i]?=some n):
 mkG fs vs (ns.drop i) i g=if hasN fs n fs.length=false then(5,[])else match vs[i]? with
  | none=>(7,[])
  | some x=>mkG fs vs (ns.drop (i+1)) (i+1) (Y2C g n x):=by
 refine Z43 ?_;intro h1 h2;rw[Yev h1,h2,mkG]
theorem mkG_end(fs:List FR)(vs:List Nat)(ns:List (List UInt8))(i:Nat)(g:List UInt8→Nat)(h:ns.length≤i):mkG fs vs (ns.drop i) i g=(0,fs.map fun f=>g f.name):=by
 rw[Yff h,mkG]
end
section
open Go Go.RowKit
def Y4m:List UInt8:= [82,101,97,115,111,110]
def Ye:List UInt8:= [73,84,84]
def YB:List UInt8:= [84,84,84]
def Y2P:List UInt8:= [76,85,78]
def Y4v:List UInt8:= [83,116,97,116,83,78]
def Y9b:List UInt8:= [69,120,112,67,109,100,83,78]
def YbR:List UInt8:= [77,97,120,67,109,100,83,78]
def Y3G:List (List UInt8):= [Y4v,Y9b,YbR]
def Y4q(stat cmd:Int):List Nat:= [stat.toNat,cmd.toNat,((cmd+31) % 4294967296).toNat]
def Y3H(g:List UInt8→Nat)(stat cmd:Int):List UInt8→Nat:=Y2C (Y2C (Y2C g Y4v stat.toNat) Y9b cmd.toNat) YbR ((cmd+31) % 4294967296).toNat
def Y5b(op:Int):List FR:=match Y1e op with | none=> [] | some r=>r.fields
theorem Y4W(op flags:Int)(r:HR)(vs:List Nat)(hf:Y1e op=some r)(hw:Y2D op false flags r.flags=false)(hl:r.fields.length=vs.length)(hb:YQ r.fields vs 0=none):Yo op false flags vs=(0,-1):=by
 unfold Yo;rw[hf];simp only[hw,Bool.false_eq_true,if_false,hb];rw[Yed Z7]
theorem Y62(op flags:Int)(r:HR)(ns:List (List UInt8))(vs xs:List Nat)(hf:Y1e op=some r)(hg:mkG r.fields vs ns 0 (fun _=>0)=(0,xs))(hr:Yo op false flags xs=(0,-1)):Y3L op flags ns vs=(0,-1,xs):=by
 unfold Y3L;rw[hf];simp only[hg,hr];exact Z2t
def Y4C(reason stat cmd:Int):List Nat:= [reason.toNat,4294967295,stat.toNat,cmd.toNat,((cmd+31) % 4294967296).toNat,0]
def Y5Z(lun itt:Nat)(stat cmd:Int):List Nat:= [lun,itt,4294967295,stat.toNat,cmd.toNat,((cmd+31) % 4294967296).toNat]
def Yah(itt:Nat)(stat cmd:Int):List Nat:= [0,itt,stat.toNat,cmd.toNat,((cmd+31) % 4294967296).toNat,0,0]
def Y5X(itt ttt:Nat)(stat cmd:Int):List Nat:= [0,itt,ttt,stat.toNat,cmd.toNat,((cmd+31) % 4294967296).toNat]
theorem Z48{P:Prop}(h:P:=by
 repeat' (first | rfl | (rw[Yed Z7]))):P:=h
section
variable (stat cmd:Int)(hs0:0≤stat)(hs1:stat≤4294967295)(hc0:0≤cmd)(hc1:cmd≤4294967295)
include hs0 hs1 hc0 hc1
theorem make_rej(reason:Int)(h0:0≤reason)(h1:reason≤255):Y3L 63 128 ([Y4m,Ye] ++ Y3G) ([reason.toNat,4294967295] ++ Y4q stat cmd)=(0,-1,Y4C reason stat cmd):=by
 refine Y62 63 128 _ _ _ _ (by rfl) (by rfl) (Y4W _ _ _ _ (by rfl) (by decide +kernel) (by rfl) ?_);simp only[Y4C,YQ];exact Z48
theorem make_nop(lun itt:Nat)(h0:lun<18446744073709551616)(h1:itt<4294967296):Y3L 32 128 ([Y2P,Ye,YB] ++ Y3G) ([lun,itt,4294967295] ++ Y4q stat cmd)=(0,-1,Y5Z lun itt stat cmd):=by
 refine Y62 32 128 _ _ _ _ (by rfl) (by rfl) (Y4W _ _ _ _ (by rfl) (by decide +kernel) (by rfl) ?_);simp only[Y5Z,YQ];exact Z48
theorem make_out(itt:Nat)(h1:itt<4294967296):Y3L 38 128 ([Ye] ++ Y3G) ([itt] ++ Y4q stat cmd)=(0,-1,Yah itt stat cmd):=by
 refine Y62 38 128 _ _ _ _ (by rfl) (by rfl) (Y4W _ _ _ _ (by rfl) (by decide +kernel) (by rfl) ?_);simp only[Yah,YQ];exact Z48
theorem Yb1(flags:Int)(hf:flags=0∨flags=64∨flags=128)(itt ttt:Nat)(h1:itt<4294967296)(h2:ttt<4294967296):Y3L 36 flags ([Ye,YB] ++ Y3G) ([itt,ttt] ++ Y4q stat cmd)=(0,-1,Y5X itt ttt stat cmd):=by
 refine Y62 36 flags _ _ _ _ (by rfl) (by rfl) (Y4W _ _ _ _ (by rfl) (by rcases hf with rfl | rfl | rfl<;>decide +kernel) (by rfl) ?_);simp only[Y5X,YQ];exact Z48
end
theorem say_rej(reason stat cmd:Int):(Y5b 63).map (fun f=>Y3H (Y2C (Y2C (fun _=>0) Y4m reason.toNat) Ye 4294967295) stat cmd f.name)=Y4C reason stat cmd:=by rfl
theorem Y7P(lun itt:Nat)(stat cmd:Int):(Y5b 32).map (fun f=>Y3H (Y2C (Y2C (Y2C (fun _=>0) Y2P lun) Ye itt) YB 4294967295) stat cmd f.name)=Y5Z lun itt stat cmd:=by rfl
theorem YcJ(itt:Nat)(stat cmd:Int):(Y5b 38).map (fun f=>Y3H (Y2C (fun _=>0) Ye itt) stat cmd f.name)=Yah itt stat cmd:=by rfl
theorem Y9X(itt ttt:Nat)(stat cmd:Int):(Y5b 36).map (fun f=>Y3H (Y2C (Y2C (fun _=>0) Ye itt) YB ttt) stat cmd f.name)=Y5X itt ttt stat cmd:=by rfl
end
section
open Go Go.RowKit
def Y5p(l:List UInt8)(k:Nat)(v:List UInt8):List UInt8:=l.take k ++ v ++ l.drop (k+v.length)
theorem Y5J(l:List UInt8)(k:Nat)(v:List UInt8)(h:k+v.length≤l.length):(Y5p l k v).length=l.length:=by
 simp[Y5p];exact Z7
def Y3u:List FR→List Nat→List UInt8→List UInt8
 | f :: fs,x :: xs,l=>Y3u fs xs (Y5p l f.at_ (be x f.size))
 | _,_,l=>l
theorem Y6e(fs:List FR)(vs:List Nat)(l:List UInt8)(k:Nat)(f:FR)(v:Nat)(hf:fs[k]?=some f)(hv:vs[k]?=some v):
 Y3u (fs.drop k) (vs.drop k) l=Y3u (fs.drop (k+1)) (vs.drop (k+1)) (Y5p l f.at_ (be v f.size)):=by
 obtain⟨h1,h2⟩:=Yek.1 hf;obtain⟨h3,h4⟩:=Yek.1 hv;rw[Yev h1,Yev h3,Y3u,h2,h4]
theorem Y7b(fs:List FR)(vs:List Nat)(l:List UInt8)(k:Nat)(h:fs.length≤k):Y3u (fs.drop k) (vs.drop k) l=l:=by
 rw[Yff h];rfl
theorem Y8p(fs:List FR)(vs:List Nat)(i:Nat)(h:YQ fs vs i=none): ∀ (k:Nat) (f:FR) (x:Nat),fs[k]?=some f→vs[k]?=some x→x<256 ^ f.size:=by
 induction fs generalizing vs i with
 | nil=>intro k f x hf;simp at hf
 | cons g fs ih =>
  intro k f x hf hx
  cases vs with
  | nil=>simp at hx
  | cons y vs =>
   rw[YQ]at h
   split at h
   ·cases h
   ·rename_i hn
    cases k with
    | zero =>
     simp only[YeZ,YeO]at hf hx;subst hf hx;omega
    | succ k=>exact ih vs (i+1) h k f x (by simpa using hf) (by simpa using hx)
def head8(op:Int)(now:Bool)(flags words data:Int):List UInt8:=
 [UInt8.ofNat (op.toNat+if now then 64 else 0),UInt8.ofNat flags.toNat,0,0,UInt8.ofNat words.toNat] ++ be data.toNat 3
def Y58(op:Int)(now:Bool)(flags words data:Int):List UInt8:=head8 op now flags words data ++ List.replicate 40 0
theorem Y3P(op:Int)(now:Bool)(flags words data:Int):(Y58 op now flags words data).length=48:=by
 simp[Y58,head8,Y2n]
def Y1F(op:Int)(now:Bool)(flags:Int)(vs:List Nat)(words data:Int):List UInt8×Nat×Int:=
 if(Yo op now flags vs).1≠0 then([],Yo op now flags vs)else
 if words<0∨255<words∨data<0∨16777215<data then([],4,-1)else
 (Y3u (Y2y (Y1e op)) vs (Y58 op now flags words data),0,-1)
structure FitH(op:Int)(now:Bool)(flags:Int)(vs:List Nat)(r:HR):Prop where
 find:Y1e op=some r
 is:(r.op:Int)=op
 low:now=true→op<32
 flags0:0≤flags
 flags1:flags≤255
 len:r.fields.length=vs.length
 fits: ∀ (k:Nat) (f:FR) (x:Nat),r.fields[k]?=some f→vs[k]?=some x→x<256 ^ f.size
 all:Yo op now flags vs=(0,-1)
theorem Yax(f m:Nat)(h:Y4J f m=false)(hm:m<256):f<256:=by
 have h:f &&& m=f:=by simpa[Y4J]using h
 have:f &&& m≤m:=Nat.and_le_right;exact Z7
theorem Y43(op:Int)(now:Bool)(flags:Int)(vs:List Nat)(h:(Yo op now flags vs).1=0): ∃r,FitH op now flags vs r:=by
 unfold Yo at h
 cases hf:Y1e op with
 | none=>rw[hf]at h;cases h
 | some r =>
  rw[hf]at h;simp only at h
  split at h
  ·cases h
  rename_i hw
  split at h
  ·cases h
  rename_i hl
  have hwr:=hw;simp only[Y2D,Yg5,Yf9,YfS,not_or,not_and]at hw;obtain⟨⟨w1,w2⟩,w3⟩:=hw;have hfl:=(YC r (YR hf)).2.2.2.2.2.1;have he:=Yax flags.toNat r.flags (by simpa using w3) hfl
  cases hb:YQ r.fields vs 0 with
  | some i=>rw[hb]at h;simp at h
  | none =>
   refine⟨r,hf,?_,fun hn=>by have:=w1 hn;omega,by omega,by omega,by omega,Y8p _ _ _ hb,?_⟩
   ·have:=List.find?_some hf;simpa using this
   ·unfold Yo;rw[hf];simp only;rw[Yed hwr,Yed hl,hb]
theorem fit_op{op:Int}{now:Bool}{flags:Int}{vs:List Nat}{r:HR}(h:FitH op now flags vs r):0≤op∧op<64:=by
 have:=(YC r (YR h.find)).2.2.2.2.1;have:=h.is;exact Z7
theorem or64(op:Int)(h0:0≤op)(h1:op<32):bits .or .u8 op 64=op+64:=by
 obtain⟨k,rfl⟩:=YfU h0;have: ∀k:Fin 32,bits .or .u8 ((k.val:Nat):Int) 64=((k.val:Nat):Int) +64:=Z16;exact this ⟨k,by omega⟩
theorem YaP(x:Int)(h0:0≤x)(h1:x≤255):((UInt8.ofNat x.toNat).toNat:Int)=x:=by
 exact Zd
end
section
open Go.Proofs.Tryz
open Go Go.RowKit
def Y4d(op:Int)(now:Bool)(flags:Int)(vs:List Nat)(w:World)(e:Ending)(w':World):Prop:=
 ∃ev,e= .returned ev∧Y1c w' ev (Yo op now flags vs).1 (Yo op now flags vs).2∧Below w.heap.size w w'
def RRight(r:HR)(vs:List Nat)(w2:World)(i:Value)(wr:World):Prop:=
 ∃k:Nat,k≤r.fields.length∧i= .int .i64 (k:Nat)∧YQ r.fields vs 0=YQ (r.fields.drop k) (vs.drop k) k∧Below w2.heap.size w2 wr
theorem Y7z(w:World)(k:Nat)(p:Int)(h:0<k):Y1c (w.alloc (.cells #[.int .i64 (k:Nat),.int .i64 p] 122)) (.iface 120 (.pointer (some ⟨w.heap.size,0,none⟩))) k p:=
 .at_ k h p _ (by rw[YeJ _ _ _ _ _ _ (YeC _ _)];rfl) (by rw[YeJ _ _ _ _ _ _ (YeC _ _)];rfl)
theorem Y3R(l:List FR)(k:Nat)(f:FR)(h:l[k]?=some f)(j:Nat)(hj:j<3):(Y17 l)[k * 3+j]?=f.cells[j]?:=by
 induction l generalizing k with
 | nil=>simp at h
 | cons x l ih =>
  rw[Y17,YfK]
  cases k with
  | zero =>
   simp only[YeZ,YeO]at h;subst h;rw[Yfl (by simp[FR.cells];exact Z7)];simp
  | succ k =>
   rw[Yfv (by simp[FR.cells];exact Z7),show(k+1) * 3+j - (FR.cells x).length=k * 3+j by simp[FR.cells];omega];exact ih k Z3o
theorem Y1m{w:World}{v:Value}{fs:List FR}(h:Sl w v 3 fs.length (Y17 fs))(hn:0<fs.length):
 ∃b o c,v= .slice (some ⟨b,o,none⟩) fs.length c∧b<w.heap.size∧ ∀k f,fs[k]?=some f→
  w.cell? ⟨b,o+k * 3,none⟩=some (.string (bs f.name))∧w.cell? ⟨b,o+k * 3+1,none⟩=some (.int .i64 (f.at_:Int))∧w.cell? ⟨b,o+k * 3+2,none⟩=some (.int .i64 (f.size:Int)):=by
 obtain⟨a,c,rfl,hl,h | ⟨b,o,rfl,hc⟩⟩:=h
 ·exact Z7
 ·have hk: ∀k f,fs[k]?=some f→w.cell? ⟨b,o+k * 3,none⟩=some (.string (bs f.name))∧w.cell? ⟨b,o+k * 3+1,none⟩=some (.int .i64 (f.at_:Int))∧w.cell? ⟨b,o+k * 3+2,none⟩=some (.int .i64 (f.size:Int)):=fun k f hf =>
   ⟨hc (k * 3) _ (Y3R fs k f hf 0 Z7),hc (k * 3+1) _ (Y3R fs k f hf 1 Z7),hc (k * 3+2) _ (Y3R fs k f hf 2 Z7)⟩
  exact⟨b,o,c,rfl,Yeb (hk 0 fs[0] (Yec hn)).1,hk⟩
theorem Y21{w:World}{v:Value}{vs:List Nat}(h:Sl w v 1 vs.length (Yb vs))(hn:0<vs.length):
 ∃b o c,v= .slice (some ⟨b,o,none⟩) vs.length c∧b<w.heap.size∧ ∀ (k x:Nat),vs[k]?=some x→w.cell? ⟨b,o+k,none⟩=some (.int .u64 (x:Int)):=by
 obtain⟨a,c,rfl,hl,h | ⟨b,o,rfl,hc⟩⟩:=h
 ·exact Z7
 ·have hk: ∀ (k x:Nat),vs[k]?=some x→w.cell? ⟨b,o+k,none⟩=some (.int .u64 (x:Int)):=fun k x hx=>hc k _ (by rw[Yb,YeR,hx];rfl)
  exact⟨b,o,c,rfl,Yeb (hk 0 vs[0] (Yec hn)),hk⟩
theorem Z37{P:Prop}(h:P:=by
 exact⟨k+1,by omega,by go_num,Heq.out,Yfk hB' _⟩):P:=h
theorem Z4n{P:Prop}(h:P:=by
 rw[heq,YeX]
 simp[YQ]):P:=h
theorem Z3q{P Q:Prop}(k:Q)(h:Q→P:=by
 have hq:0≤words∧words≤255∧0≤data∧data≤16777215:=Z7
 obtain⟨q0,q1,q2,q3⟩:=hq
 have HR:=hid (show Y1F op now flags vs words data=(Y3u r.fields vs (Y58 op now flags words data),0,-1) by simp only[Y1F,HF.out.all];rw[Yed Z2t,Yed hw,HF.out.find];rfl)
 refine fun z_=>?_
 revert HR;revert q3;revert q2;revert q1;revert q0
 exact z_):P:=h k
theorem Z4f{P Q:Prop}(k:Q)(h:Q→P:=by
 obtain⟨f,hfk⟩: ∃f,r.fields[k]?=some f:=⟨r.fields[k],Yec hlt⟩
 refine fun z_=>?_
 revert hfk;revert f
 exact z_):P:=h k
theorem Z4j{P:Prop}(h:P:=by
 simp +contextual [Y2K,Y76,go_sem,Oper.about,z3,zx,zs,hrf,hklt]
 exact fun w' h=>⟨trivial,Yez.2 (cn w').out⟩):P:=h
section
variable (op:Int)(now:Bool)(flags:Int)(v:Value)(vs:List Nat)(w:World)(h0: -9223372036854775808≤op)(h1:op≤9223372036854775807)(g0: -9223372036854775808≤flags)(g1:flags≤9223372036854775807)
 (hn:vs.length≤9223372036854775807) (hv: ∀x∈vs,x≤18446744073709551615) (hsl:Sl w v 1 vs.length (Yb vs)) (hT:AS w) (hP:PT w)
include h0 h1 g0 g1 hn hv hsl hT hP
theorem Y6q:Calls prog 110 #[Y1A op now flags v] w fun e w'=>Y4d op now flags vs w e w':=by
 have c1:=fun w1 (hb:Below w.heap.size w w1)=>hid (Y3O op h0 h1 w1 (hT.below hb (Ye9 _)) (hP.below hb (Ye9 _)))
 have c2:=fun w1 (hb:Below w.heap.size w w1)=>hid (Yc2 op h0 h1 w1 (hT.below hb (Ye9 _)) (hP.below hb (Ye9 _)))
 have HSL:=hid hsl;obtain⟨sa,sc,rfl,hsl1,hsl2⟩:=hsl;unfold Y2X at c1;unfold Y4d;clear hT hP
 cases hf:Y1e op with
 | none =>
  rw[hf]at c1;have hr:Yo op now flags vs=(1,-1):=by simp[Yo,hf]
  rw[hr];go_enter func110,ntmps110;unfold Y1A;go_wp2_with fail;have b1:=(Yea w.heap.size w).alloc (Ye9 _) (.cells #[.int .i64 op,.bool now,.int .i64 flags,.slice sa vs.length sc] 60);refine(c1 _ b1).out.mono ?_;rintro e w1 ⟨fv,rfl,_,hnil,hb⟩;obtain rfl:=hnil (by trivial);simp only[HErr,hE,errV];go_wp2;go_ret;exact⟨_,rfl,.bare 1 Z7,b1.trans (hb.mono b1.size)⟩
 | some r =>
  rw[hf]at c1 c2;have hmem:=YR hf;have hfine:=YC r hmem;have hfl:=hfine.2.2.2.2.2.1;have hnf:=hfine.2.2.2.2.2.2.1;have hsz:=hfine.2.2.2.2.2.2.2;have hn0:=Y1Q r hmem;clear hfine;have b1:=(Yea w.heap.size w).alloc (Ye9 _) (.cells #[.int .i64 op,.bool now,.int .i64 flags,.slice sa vs.length sc] 60);have B1:=Blk.new w 60 #[.int .i64 op,.bool now,.int .i64 flags,.slice sa vs.length sc]
  simp only[HErr,hE,errV,Y2y,Y5P]at c1 c2
  have hcases:(Y2D op now flags r.flags=true∧((now=true∧32≤op)∨((now=false∨ ¬32≤op)∧flags<0)∨((now=false∨ ¬32≤op)∧ ¬flags<0∧Y4J flags.toNat r.flags=true)))∨(Y2D op now flags r.flags=false∧(now=false∨ ¬32≤op)∧ ¬flags<0∧Y4J flags.toNat r.flags=false):=by
   unfold Y2D
   cases now<;>by_cases a1:32≤op<;>by_cases a2:flags<0<;>cases a3:Y4J flags.toNat r.flags<;>simp[a1,a2,a3]
  have hand: ¬flags<0→(bits .andNot .i64 flags (r.flags:Int) !=0)=Y4J flags.toNat r.flags:=fun h=>by
   have:=Y9y flags.toNat r.flags Z7 hfl
   rwa [Ygh Z7]at this
  have Hand:=hid hand;clear hand;have hR3:Y2D op now flags r.flags=true→Yo op now flags vs=(3,-1):=fun h=>by simp[Yo,hf,h]
  have hR7:Y2D op now flags r.flags=false→r.fields.length≠vs.length→Yo op now flags vs=(7,-1):=fun h h2=>by simp[Yo,hf,h,h2]
  have hR2: ∀i,Y2D op now flags r.flags=false→r.fields.length=vs.length→YQ r.fields vs 0=some i→Yo op now flags vs=(2,(i:Int)):=fun i h h2 h3=>by simp[Yo,hf,h,h2,h3]
  have hR0:Y2D op now flags r.flags=false→r.fields.length=vs.length→YQ r.fields vs 0=none→Yo op now flags vs=(0,-1):=fun h h2 h3=>by simp[Yo,hf,h,h2,h3]
  have HR3:=hid hR3;have HR7:=hid hR7;have HR2:=hid hR2;have HR0:=hid hR0;clear hR3 hR7 hR2 hR0;have Hsz:=hid hsz;clear hsz;have Hv:=hid hv;clear hsl2 hv hsl1;go_enter func110,ntmps110;unfold Y1A;go_wp2_with fail;refine(c1 _ b1).out.mono ?_;rintro e w1 ⟨fv,rfl,hfs,_,hb1⟩;have B1:=B1.below hb1;have b1:=b1.trans (hb1.mono b1.size);have p0:w1.cell? ⟨w.heap.size,0,none⟩=some (.int .i64 op):=(B1.cell 0).trans rfl
  clear hb1;go_wp2_with fail;refine(c2 _ b1).out.mono ?_;rintro e w2 ⟨rfl,hb2⟩;have B2:=B1.below hb2;have hfs:=hfs.below Z7 hb2;have b2:=b1.trans (hb2.mono b1.size);clear p0 B1 hb2 b1;have p0:w2.cell? ⟨w.heap.size,0,none⟩=some (.int .i64 op):=(B2.cell 0).trans rfl;have p1:w2.cell? ⟨w.heap.size,1,none⟩=some (.bool now):=(B2.cell 1).trans rfl;have p2:w2.cell? ⟨w.heap.size,2,none⟩=some (.int .i64 flags):=(B2.cell 2).trans rfl
  have p3:w2.cell? ⟨w.heap.size,3,none⟩=some (.slice sa vs.length sc):=(B2.cell 3).trans rfl;have HFS:=hid hfs;obtain⟨fa,fc,rfl,hfl1,hfl2⟩:=hfs;have HB2:=hid B2;clear hfl2 B2 hfl1;rcases hcases with ⟨hw,hc⟩ | ⟨hw,hc⟩
  ·have HR:=hid (HR3.out hw);clear HR3 HR7 HR2 HR0 hw;rcases hc with ⟨rfl,hc⟩ | ⟨rfl | hc1,hc⟩ | ⟨rfl | hc1,hc,he⟩
   ·have hd:=Yel hc;go_wp2;go_ret;exact⟨_,rfl,by rw[HR.out];exact .bare 3 Z7,b2⟩
   ·have hd:=Yel hc;go_wp2;go_ret;exact⟨_,rfl,by rw[HR.out];exact .bare 3 Z7,b2⟩
   ·have hd:=Yel hc;have hd1:decide (32≤op)=false:=Yeh Z7
    cases now
    ·go_wp2;go_ret;exact⟨_,rfl,by rw[HR.out];exact .bare 3 Z7,b2⟩
    ·go_wp2;go_ret;exact⟨_,rfl,by rw[HR.out];exact .bare 3 Z7,b2⟩
   ·have hd:decide (flags<0)=false:=Yeh Z7;have ha:=(Hand.out Z7).trans he;go_wp2;go_ret;exact⟨_,rfl,by rw[HR.out];exact .bare 3 Z7,b2⟩
   ·have hd:decide (flags<0)=false:=Yeh Z7;have hd1:decide (32≤op)=false:=Yeh Z7;have ha:=(Hand.out Z7).trans he
    cases now
    ·go_wp2;go_ret;exact⟨_,rfl,by rw[HR.out];exact .bare 3 Z7,b2⟩
    ·go_wp2;go_ret;exact⟨_,rfl,by rw[HR.out];exact .bare 3 Z7,b2⟩
  ·clear HR3;have HR7:=hid (HR7.out hw);have HR0:=hid (HR0.out hw);have HR2:=hid (fun i=>HR2.out i hw);clear hw;obtain⟨hc1,hc2,hc3⟩:=hc;have hd:decide (flags<0)=false:=Yeh Z7;have ha:=(Hand.out Z7).trans hc3
   have hdn:now=false∨(now=true∧decide (32≤op)=false):=by
    rcases hc1 with h | h
    ·exact .inl h
    ·cases now
     ·exact .inl rfl
     ·exact .inr ⟨rfl,Yeh Z7⟩
   clear hc1 hc3;by_cases hlen:r.fields.length=vs.length
   ·have hvl:0<vs.length:=Z7;obtain⟨fb,fo,fc',hfe,hfb,hfc⟩:=Y1m HFS.out hn0;obtain⟨vb,vo,vc',hve,hvb,hvc⟩:=Y21 HSL.out hvl;have HFC:=hid hfc;have HVC:=hid hvc
    cases hfe
    cases hve
    clear hfc hvc HR7;rcases hdn with rfl | ⟨rfl,hd1⟩
    ·go_wp2;go_loopw [55] (fun i wr=>RRight r vs w2 i wr) (fun i _=>r.fields.length - (intOf i).toNat)
     case atStart=>exact Z1g
     case round =>
      obtain⟨k,hk,rfl,heq,hb⟩:=hrel;have hB:=hb.size;by_cases hlt:k<r.fields.length
      ·obtain⟨f,hfk⟩: ∃f,r.fields[k]?=some f:=⟨r.fields[k],Yec hlt⟩;obtain⟨x,hxk⟩: ∃x,vs[k]?=some x:=⟨vs[k]' Z7,Yec _⟩;obtain⟨q1,q2,q3,q4,q5,q6,q7⟩:=Hsz.out f (Yer hfk);have hx64:=Hv.out x (Yer hxk);rw[Y2Q r.fields vs k f x hfk hxk]at heq;obtain⟨y0,y1,y2⟩:=HFC.out k f hfk;have y0:=(hb.cell (p:=⟨fb,fo+k * 3,none⟩) hfb).trans y0
       have y1:=(hb.cell (p:=⟨fb,fo+k * 3+1,none⟩) hfb).trans y1;have y2:=(hb.cell (p:=⟨fb,fo+k * 3+2,none⟩) hfb).trans y2;have z0:=(hb.cell (p:=⟨vb,vo+k,none⟩) (Yee hvb b2.size)).trans ((b2.cell (p:=⟨vb,vo+k,none⟩) hvb).trans (HVC.out k x hxk));have p3:=(hb.cell (p:=⟨w.heap.size,3,none⟩) HB2.out.lt).trans p3;have q9:vb<wr.heap.size:=Yee hvb (Yeu b2.size hB);have q8:w.heap.size<wr.heap.size:=Yee HB2.out.lt hB
       have hB':=hb.alloc hB (.cells #[.string (bs f.name),.int .i64 (f.at_:Int),.int .i64 (f.size:Int)] 225);by_cases hbad:256 ^ f.size≤x
       ·have h8:f.size<8:=by
         rcases YeU f.size 8 with h | h
         ·exact h
         ·obtain h:f.size=8:=Z7;rw[h]at hbad;omega
        rw[Yei hbad]at heq;have HR:=hid (HR2.out k hlen heq)
        have hq:((x:Int) / 2 ^ (8 * f.size) !=0)=true:=by
         have e:(x:Int) / 2 ^ (8 * f.size)=((x / 256 ^ f.size:Nat):Int):=Z4z;have e2:0<x / 256 ^ f.size:=Nat.div_pos hbad (Nat.pow_pos Z7);rw[e,Ygt];omega
        have hd8:decide ((f.size:Int) < 8)=true:=Yel Z7;have hw8:IntKind.i64.wrap (8 * (f.size:Int))=8 * (f.size:Int):=ZZ;have ht8:(8 * (f.size:Int)).toNat=8 * f.size:=Z7;have hp8: ¬8 * (f.size:Int) < 0:=Z7;clear hbad heq hfk hxk HR0 HR2;go_wp2;go_quiet (skip);go_wp2;go_ret;exact⟨_,rfl,by rw[HR.out];simpa using Y7z ((wr.alloc (.cells #[.string (bs f.name),.int .i64 (f.at_:Int),.int .i64 (f.size:Int)] 225)).drewN nq) 2 (k:Int) Z7,b2.trans (((Yfk hB' _).alloc Zd _).mono b2.size)⟩
       ·rw[Yed hbad]at heq;have Heq:=hid heq
        have hq:((x:Int) / 2 ^ (8 * f.size) !=0)=false:=by
         have e:(x:Int) / 2 ^ (8 * f.size)=((x / 256 ^ f.size:Nat):Int):=Z4z;rw[e,Ygs Z7];rfl
        clear hbad heq hfk hxk;by_cases h8:f.size<8
        ·have hd8:decide ((f.size:Int) < 8)=true:=Yel Z7;go_wp2;go_quiet (skip);go_wp2;go_roundw
         case rel=>exact Z37
         case measure=>exact Zw
        ·have hd8:decide ((f.size:Int) < 8)=false:=Yeh Z7;go_wp2;go_quiet (skip);go_wp2;go_roundw
         case rel=>exact Z37
         case measure=>exact Zw
      ·obtain rfl:k=r.fields.length:=Z7;have HR:=hid (HR0.out hlen Z4n);go_wp2;go_ret;exact⟨_,rfl,by rw[HR.out];exact .nil,b2.trans (hb.mono b2.size)⟩
    ·go_wp2;go_loopw [55] (fun i wr=>RRight r vs w2 i wr) (fun i _=>r.fields.length - (intOf i).toNat)
     case atStart=>exact Z1g
     case round =>
      obtain⟨k,hk,rfl,heq,hb⟩:=hrel;have hB:=hb.size;by_cases hlt:k<r.fields.length
      ·obtain⟨f,hfk⟩: ∃f,r.fields[k]?=some f:=⟨r.fields[k],Yec hlt⟩;obtain⟨x,hxk⟩: ∃x,vs[k]?=some x:=⟨vs[k]' Z7,Yec _⟩;obtain⟨q1,q2,q3,q4,q5,q6,q7⟩:=Hsz.out f (Yer hfk);have hx64:=Hv.out x (Yer hxk);rw[Y2Q r.fields vs k f x hfk hxk]at heq;obtain⟨y0,y1,y2⟩:=HFC.out k f hfk;have y0:=(hb.cell (p:=⟨fb,fo+k * 3,none⟩) hfb).trans y0
       have y1:=(hb.cell (p:=⟨fb,fo+k * 3+1,none⟩) hfb).trans y1;have y2:=(hb.cell (p:=⟨fb,fo+k * 3+2,none⟩) hfb).trans y2;have z0:=(hb.cell (p:=⟨vb,vo+k,none⟩) (Yee hvb b2.size)).trans ((b2.cell (p:=⟨vb,vo+k,none⟩) hvb).trans (HVC.out k x hxk));have p3:=(hb.cell (p:=⟨w.heap.size,3,none⟩) HB2.out.lt).trans p3;have q9:vb<wr.heap.size:=Yee hvb (Yeu b2.size hB);have q8:w.heap.size<wr.heap.size:=Yee HB2.out.lt hB
       have hB':=hb.alloc hB (.cells #[.string (bs f.name),.int .i64 (f.at_:Int),.int .i64 (f.size:Int)] 225);by_cases hbad:256 ^ f.size≤x
       ·have h8:f.size<8:=by
         rcases YeU f.size 8 with h | h
         ·exact h
         ·obtain h:f.size=8:=Z7;rw[h]at hbad;omega
        rw[Yei hbad]at heq;have HR:=hid (HR2.out k hlen heq)
        have hq:((x:Int) / 2 ^ (8 * f.size) !=0)=true:=by
         have e:(x:Int) / 2 ^ (8 * f.size)=((x / 256 ^ f.size:Nat):Int):=Z4z;have e2:0<x / 256 ^ f.size:=Nat.div_pos hbad (Nat.pow_pos Z7);rw[e,Ygt];omega
        have hd8:decide ((f.size:Int) < 8)=true:=Yel Z7;have hw8:IntKind.i64.wrap (8 * (f.size:Int))=8 * (f.size:Int):=ZZ;have ht8:(8 * (f.size:Int)).toNat=8 * f.size:=Z7;have hp8: ¬8 * (f.size:Int) < 0:=Z7;clear hbad heq hfk hxk HR0 HR2;go_wp2;go_quiet (skip);go_wp2;go_ret;exact⟨_,rfl,by rw[HR.out];simpa using Y7z ((wr.alloc (.cells #[.string (bs f.name),.int .i64 (f.at_:Int),.int .i64 (f.size:Int)] 225)).drewN nq) 2 (k:Int) Z7,b2.trans (((Yfk hB' _).alloc Zd _).mono b2.size)⟩
       ·rw[Yed hbad]at heq;have Heq:=hid heq
        have hq:((x:Int) / 2 ^ (8 * f.size) !=0)=false:=by
         have e:(x:Int) / 2 ^ (8 * f.size)=((x / 256 ^ f.size:Nat):Int):=Z4z;rw[e,Ygs Z7];rfl
        clear hbad heq hfk hxk;by_cases h8:f.size<8
        ·have hd8:decide ((f.size:Int) < 8)=true:=Yel Z7;go_wp2;go_quiet (skip);go_wp2;go_roundw
         case rel=>exact Z37
         case measure=>exact Zw
        ·have hd8:decide ((f.size:Int) < 8)=false:=Yeh Z7;go_wp2;go_quiet (skip);go_wp2;go_roundw
         case rel=>exact Z37
         case measure=>exact Zw
      ·obtain rfl:k=r.fields.length:=Z7;have HR:=hid (HR0.out hlen Z4n);go_wp2;go_ret;exact⟨_,rfl,by rw[HR.out];exact .nil,b2.trans (hb.mono b2.size)⟩
   ·have HR:=hid (HR7.out hlen);have hli: ¬(r.fields.length:Int)=(vs.length:Int):=Z7;rcases hdn with rfl | ⟨rfl,hd1⟩
    ·go_wp2;go_ret;exact⟨_,rfl,by rw[HR.out];exact .bare 7 Z7,b2⟩
    ·go_wp2;go_ret;exact⟨_,rfl,by rw[HR.out];exact .bare 7 Z7,b2⟩
end
end
end Go.Proofs.YtfadikchijkcfaaGreatDoor
