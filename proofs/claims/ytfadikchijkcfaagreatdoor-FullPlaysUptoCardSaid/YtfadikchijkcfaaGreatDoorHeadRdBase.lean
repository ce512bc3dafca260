/- What a head's field has: by the program and by the document. -/
import Derived.Test.YtfadikchijkcfaaGreatDoorParsePure
import Derived.Test.YtfadikchijkcfaaGreatDoorHeadRight
import Derived.Test.YtfadikchijkcfaaGreatDoorAhs
import Derived.Test.YtfadikchijkcfaaGreatDoorPUint
import Derived.Test.YtfadikchijkcfaaGreatDoorField
import Derived.Lib.BufferWrite
import Derived.Test.YtfadikchijkcfaaGreatDoorRel
set_option linter.unusedVariables false
set_option linter.unusedSectionVars false
set_option linter.unusedSimpArgs false
set_option maxRecDepth 100000
set_option maxHeartbeats 4000000
namespace Go.Proofs.YtfadikchijkcfaaGreatDoor
section
open Go.Proofs.Tryz
open Go Go.RowKit
def Y3p:List FR→List Nat→List UInt8→Nat×Nat
 | [],_,_=>(0,5)
 | f :: fs,vs,name=>if f.name=name then(match vs.head? with | none=>(0,7) | some x=>(x,0))else Y3p fs vs.tail name
def Y3j(op:Int)(vs:List Nat)(name:List UInt8):Nat×Nat:=
 match Y1e op with
 | none=>(0,1)
 | some r=>Y3p r.fields vs name
theorem Y5E(fs:List FR)(vs:List Nat)(name:List UInt8)(k:Nat)(f:FR)(hf:fs[k]?=some f):
 Y3p (fs.drop k) (vs.drop k) name=if f.name=name then(if h:k<vs.length then(vs[k],0)else(0,7))else Y3p (fs.drop (k+1)) (vs.drop (k+1)) name:=by
 obtain⟨h1,h2⟩:=Yek.1 hf;rw[Yev h1,Y3p,h2]
 split
 ·by_cases h:k<vs.length
  ·rw[dif_pos h,Yev h];rfl
  ·rw[dif_neg h,Yff Z7];rfl
 ·rw[List.tail_drop]
def RVal(r:HR)(vs:List Nat)(name:List UInt8)(w2:World)(i:Value)(wr:World):Prop:=
 ∃k:Nat,k≤r.fields.length∧i= .int .i64 (k:Nat)∧Y3p r.fields vs name=Y3p (r.fields.drop k) (vs.drop k) name∧Below w2.heap.size w2 wr
theorem Z45{P Q:Prop}(k:Q)(h:Q→P:=by
 have b1:=((Yea w.heap.size w).alloc (Ye9 _) (.cells #[.int .i64 op,.bool now,.int .i64 flags,.slice sa vs.length sc] 60))
 have B1:=(Blk.new w 60 #[.int .i64 op,.bool now,.int .i64 flags,.slice sa vs.length sc])
 refine fun z_=>?_
 revert B1;revert b1
 exact z_):P:=h k
section
variable (op:Int)(now:Bool)(flags:Int)(v:Value)(vs:List Nat)(name:List UInt8)(w:World)(h0: -9223372036854775808≤op)(h1:op≤9223372036854775807)
 (hn:vs.length≤9223372036854775807) (hsl:Sl w v 1 vs.length (Yb vs)) (hT:AS w) (hP:PT w)
include h0 h1 hn hsl hT hP
theorem value_h:Calls prog 121 #[Y1A op now flags v,.string (bs name)] w fun e w'=>e= .returned (.tuple #[.int .u64 ((Y3j op vs name).1:Nat),errV 36 (Y3j op vs name).2])∧Below w.heap.size w w':=by
 have c1:=fun w1 (hb:Below w.heap.size w w1)=>hid (Y3O op h0 h1 w1 (hT.below hb (Ye9 _)) (hP.below hb (Ye9 _)))
 unfold Y2X at c1;have HSL:=hid hsl;obtain⟨sa,sc,rfl,hsl1,hsl2⟩:=hsl;clear hT hP hsl1 hsl2;refine Z45 ?_;intro b1 B1
 cases hf:Y1e op with
 | none =>
  rw[hf]at c1;have HR:=hid (show Y3j op vs name=(0,1) by simp[Y3j,hf]);go_enter func121,ntmps121;unfold Y1A;go_wp2_with fail;refine(c1 _ b1).out.mono ?_;rintro e w1 ⟨fv,rfl,_,hnil,hb⟩;obtain rfl:=hnil (by trivial);simp only[HErr,hE,errV];go_wp2;go_ret2;exact⟨by rw[HR.out];rfl,b1.trans (hb.mono b1.size)⟩
 | some r =>
  rw[hf]at c1;have hmem:=YR hf;have hn0:=Y1Q r hmem;have hnf:=(YC r hmem).2.2.2.2.2.2.1;have HRr:=hid (show Y3j op vs name=Y3p r.fields vs name by simp[Y3j,hf]);simp only[Y2y,Y5P,Yc5,HErr,hE,errV]at c1;go_enter func121,ntmps121;unfold Y1A;go_wp2_with fail;refine(c1 _ b1).out.mono ?_;rintro e w2 ⟨fv,rfl,hfs,_,hb⟩;have B2:=B1.below hb;have b2:=b1.trans (hb.mono b1.size)
  have HB2:=hid B2;have p3':w2.cell? ⟨w.heap.size,3,none⟩=some (.slice sa vs.length sc):=(B2.cell 3).trans rfl;have HP3:=hid p3';obtain⟨fb,fo,fc,rfl,hfb,hfc⟩:=Y1m hfs hn0;have HFC:=hid hfc;clear B1 B2 b1 hb p3' hfc hfs c1;go_wp2;go_loopw [21] (fun i wr=>RVal r vs name w2 i wr) (fun i _=>r.fields.length - (intOf i).toNat)
  case atStart=>exact Z1g
  case round =>
   obtain⟨k,hk,rfl,heq,hb⟩:=hrel;have hB:=hb.size;have q8:w.heap.size<wr.heap.size:=Yee HB2.out.lt hB;have p3:=(hb.cell (p:=⟨w.heap.size,3,none⟩) HB2.out.lt).trans HP3.out;by_cases hlt:k<r.fields.length
   ·obtain⟨f,hfk⟩: ∃f,r.fields[k]?=some f:=⟨r.fields[k],Yec hlt⟩;rw[Y5E r.fields vs name k f hfk]at heq;obtain⟨y0',y1',y2'⟩:=HFC.out k f hfk;have y0:=(hb.cell (p:=⟨fb,fo+k * 3,none⟩) hfb).trans y0';have y1:=(hb.cell (p:=⟨fb,fo+k * 3+1,none⟩) hfb).trans y1';have y2:=(hb.cell (p:=⟨fb,fo+k * 3+2,none⟩) hfb).trans y2';clear y0' y1' y2';by_cases hname:f.name=name
    ·rw[Yei hname]at heq;have hbe:(f.name == name)=true:=Z3Q;by_cases hkv:k<vs.length
     ·rw[dif_pos hkv]at heq;obtain⟨vb,vo,vc,hve,hvb,hvc⟩:=Y21 HSL.out Z7
      cases hve
      have zx:=(hb.cell (p:=⟨vb,vo+k,none⟩) (Yee hvb b2.size)).trans ((b2.cell (p:=⟨vb,vo+k,none⟩) hvb).trans (hvc k vs[k] (Yec hkv)));have q9:vb<wr.heap.size:=Yee hvb (Yeu b2.size hB);have hd:decide ((k:Int) < (vs.length:Int))=true:=Yel Z7;have HR:=hid (HRr.out.trans heq);clear heq hvc;go_wp2;go_ret2;exact⟨by rw[HR.out];rfl,b2.trans ((hb.alloc hB _).mono b2.size)⟩
     ·rw[dif_neg hkv]at heq;have hd:decide ((k:Int) < (vs.length:Int))=false:=Yeh Z7;have HR:=hid (HRr.out.trans heq);clear heq;go_wp2;go_ret2;exact⟨by rw[HR.out];rfl,b2.trans ((hb.alloc hB _).mono b2.size)⟩
    ·rw[Yed hname]at heq;have hbe:(f.name == name)=false:=Z3Q;have Heq:=hid heq;clear heq hfk;go_wp2;go_roundw
     case rel=>exact⟨k+1,by omega,by go_num,Heq.out,hb.alloc hB _⟩
     case measure=>exact Zw
   ·obtain rfl:k=r.fields.length:=Z7;have HR:=hid (HRr.out.trans (by rw[heq,YeX];rfl:_=((0:Nat),(5:Nat))));go_wp2;go_ret2;exact⟨by rw[HR.out];rfl,b2.trans (hb.mono b2.size)⟩
theorem rvalue_h:Calls prog 107 #[Y1A op now flags v,.string (bs name)] w fun e w'=>e= .returned (.tuple #[.int .u64 ((Y3j op vs name).1:Nat),.int .i64 ((Y3j op vs name).2:Nat)])∧Below w.heap.size w w':=by
 have c1:=fun w1 (hb:Below w.heap.size w w1)=>hid (Y63 op w1)
 unfold Y5i at c1;have HSL:=hid hsl;obtain⟨sa,sc,rfl,hsl1,hsl2⟩:=hsl;clear hT hP hsl1 hsl2;refine Z45 ?_;intro b1 B1
 cases hf:Y1e op with
 | none =>
  rw[hf]at c1;have HR:=hid (show Y3j op vs name=(0,1) by simp[Y3j,hf]);go_enter func107,ntmps107;unfold Y1A;go_wp2_with fail;refine(c1 _ b1).out.mono ?_;rintro e w1 ⟨fv,rfl,_,_,hb⟩;go_wp2;go_ret2;exact⟨by rw[HR.out];rfl,b1.trans (hb.mono b1.size)⟩
 | some r =>
  rw[hf]at c1;have hmem:=YR hf;have hn0:=Y1Q r hmem;have hnf:=(YC r hmem).2.2.2.2.2.2.1;have HRr:=hid (show Y3j op vs name=Y3p r.fields vs name by simp[Y3j,hf]);simp only[Y2y,Y5P,Yc5,HErr,hE,errV]at c1;go_enter func107,ntmps107;unfold Y1A;go_wp2_with fail;refine(c1 _ b1).out.mono ?_;rintro e w2 ⟨fv,rfl,hfs,_,hb⟩;have B2:=B1.below hb;have b2:=b1.trans (hb.mono b1.size)
  have HB2:=hid B2;have p3':w2.cell? ⟨w.heap.size,3,none⟩=some (.slice sa vs.length sc):=(B2.cell 3).trans rfl;have HP3:=hid p3';obtain⟨fb,fo,fc,rfl,hfb,hfc⟩:=Y1m hfs hn0;have HFC:=hid hfc;clear B1 B2 b1 hb p3' hfc hfs c1;go_wp2;go_loopw [23] (fun i wr=>RVal r vs name w2 i wr) (fun i _=>r.fields.length - (intOf i).toNat)
  case atStart=>exact Z1g
  case round =>
   obtain⟨k,hk,rfl,heq,hb⟩:=hrel;have hB:=hb.size;have q8:w.heap.size<wr.heap.size:=Yee HB2.out.lt hB;have p3:=(hb.cell (p:=⟨w.heap.size,3,none⟩) HB2.out.lt).trans HP3.out;by_cases hlt:k<r.fields.length
   ·obtain⟨f,hfk⟩: ∃f,r.fields[k]?=some f:=⟨r.fields[k],Yec hlt⟩;rw[Y5E r.fields vs name k f hfk]at heq;obtain⟨y0',y1',y2'⟩:=HFC.out k f hfk;have y0:=(hb.cell (p:=⟨fb,fo+k * 3,none⟩) hfb).trans y0';have y1:=(hb.cell (p:=⟨fb,fo+k * 3+1,none⟩) hfb).trans y1';have y2:=(hb.cell (p:=⟨fb,fo+k * 3+2,none⟩) hfb).trans y2';clear y0' y1' y2';by_cases hname:f.name=name
    ·rw[Yei hname]at heq;have hbe:(f.name == name)=true:=Z3Q;by_cases hkv:k<vs.length
     ·rw[dif_pos hkv]at heq;obtain⟨vb,vo,vc,hve,hvb,hvc⟩:=Y21 HSL.out Z7
      cases hve
      have zx:=(hb.cell (p:=⟨vb,vo+k,none⟩) (Yee hvb b2.size)).trans ((b2.cell (p:=⟨vb,vo+k,none⟩) hvb).trans (hvc k vs[k] (Yec hkv)));have q9:vb<wr.heap.size:=Yee hvb (Yeu b2.size hB);have hd:decide ((k:Int) < (vs.length:Int))=true:=Yel Z7;have HR:=hid (HRr.out.trans heq);clear heq hvc;go_wp2;go_ret2;exact⟨by rw[HR.out];rfl,b2.trans ((hb).mono b2.size)⟩
     ·rw[dif_neg hkv]at heq;have hd:decide ((k:Int) < (vs.length:Int))=false:=Yeh Z7;have HR:=hid (HRr.out.trans heq);clear heq;go_wp2;go_ret2;exact⟨by rw[HR.out];rfl,b2.trans ((hb).mono b2.size)⟩
    ·rw[Yed hname]at heq;have hbe:(f.name == name)=false:=Z3Q;have Heq:=hid heq;clear heq hfk;go_wp2;go_roundw
     case rel=>exact⟨k+1,by omega,by go_num,Heq.out,hb⟩
     case measure=>exact Zw
   ·obtain rfl:k=r.fields.length:=Z7;have HR:=hid (HRr.out.trans (by rw[heq,YeX];rfl:_=((0:Nat),(5:Nat))));go_wp2;go_ret2;exact⟨by rw[HR.out];rfl,b2.trans (hb.mono b2.size)⟩
end
end
section
open Go Go.RowKit
def Y2L(op:Int)(now:Bool)(flags:Int)(vs:List Nat)(n:Nat)(I:Nat→Int×List UInt8)(d:List UInt8):Nat:=
 if(Yo op now flags vs).1≠0 then(Yo op now flags vs).1 else if(Y8y I n 0 0).1≠0 then(Y8y I n 0 0).1 else if 100000<d.length then 4 else 0
def Y1a(op:Int)(now:Bool)(flags:Int)(v a:Value)(d:List UInt8):Value:= .agg #[.int .i64 op,.bool now,.int .i64 flags,v,a,.string (bs d)]
end
section
open Go Go.RowKit
structure RdH where
 e:Nat
 op:Int
 now:Bool
 flags:Int
 vals:List Nat
 words:Int
 data:Int
end
section
open Go.Proofs.Tryz
open Go Go.RowKit
theorem Y9U{P:Program}(t e:TypeId)(ht:P.underlying t=some (.slice e))(hsz: ∀w,(sizeOf e).run P w= .ok 1 w)(g n cap k:Nat)(hk:k≤n)(hkc:k<cap)(w:World):
 (Instr.slice t (.slice (some ⟨g,0,none⟩) n cap) (some (.int .i64 (k:Int))) none none).run P w= .ok (.slice (some ⟨g,k,none⟩) (n - k) (cap - k)) w:=by
 have he:P.elem t=e:=by simp[Program.elem,ht]
 rw[run_slice_l w t _ n cap (by rw[he];exact ht) .i64 k Z7 Z7,he,hsz];simp only[Result.andThen,sliced];rw[Yed Z7];by_cases h0:k=0<;>simp[Addr.add,h0]
theorem Y3S{w:World}{v:Value}{pl:Int}(h:Y1c w v 0 pl):v= .nilIface:=by
 generalize hk:0=k at h
 cases h<;>first | rfl | omega
theorem Yc4(x:UInt8)(a0 flags words data:Int)(hx:(x.toNat:Int)=a0)(f0:0≤flags)(f1:flags≤255)(q0:0≤words)(q1:words≤255)(q2:0≤data)(q3:data≤16777215):
 (((((((Y15 [0,0,0,0,0,0,0,0,0,0,0,0,0,0,0,0,0,0,0,0,0,0,0,0,0,0,0,0,0,0,0,0,0,0,0,0,0,0,0,0,0,0,0,0,0,0,0,0]).setIfInBounds 0 (.int .u8 a0)).setIfInBounds 1 (.int .u8 flags)).setIfInBounds 4 (.int .u8 words)).setIfInBounds 5 (.int .u8 (data / 65536))).setIfInBounds 6 (.int .u8 (data / 256 % 256))).setIfInBounds 7 (.int .u8 (data % 256)))=
  Y15 (([x,UInt8.ofNat flags.toNat,0,0,UInt8.ofNat words.toNat] ++ be data.toNat 3) ++ List.replicate 40 0):=by
 obtain⟨d,rfl⟩:=YfU q2;have e5:((d:Int) / 65536)=((UInt8.ofNat (d / 256 ^ 2 % 256)).toNat:Int):=Zd;have e6:((d:Int) / 256 % 256)=((UInt8.ofNat (d / 256 ^ 1 % 256)).toNat:Int):=Z2t;have e7:((d:Int) % 256)=((UInt8.ofNat (d / 256 ^ 0 % 256)).toNat:Int):=Z2t;have ef:=YaP flags f0 f1;have ew:=YaP words q0 q1;generalize UInt8.ofNat flags.toNat=F at *;generalize UInt8.ofNat words.toNat=W at *
 rw[←hx,←ef,←ew,e5,e6,e7];simp only[Y7B,YfL];rfl
theorem Y1i{a b:World}{g:Nat}(h:a.grownBy b (some g)){p:Addr}(hp:p.block<a.heap.size)(hn:p.block≠g):b.cell? p=a.cell? p:=by
 unfold World.cell?;rw[h.block _ hp (by intro e;cases e;exact hn rfl)]
theorem Yai{a w:World}{g:Nat}(h:a.grownBy w (some g))(cs:Array Value):a.grownBy (w.setRow g cs) (some g):=
 Y1L h ⟨rfl,rfl,rfl,by simp,fun k hk hne=>setRow_other w g k cs (by intro e;subst e;exact hne rfl)⟩
theorem copy_at(g k:Nat)(L l:List UInt8)(n:Nat)(w:World)(hL:Blk w g 5 (Y15 L))(hle:l.length≤n)(hfit:k+l.length≤L.length):
 (Builtin.copy_ #[219,9] 3 #[.slice (some ⟨g,k,none⟩) n n,.string (bs l)]).run prog w= .ok (.int .i64 (l.length:Int)) (w.setRow g (Y15 (Y5p L k l))):=by
 have hsz:(bs l).size=l.length:=by simp[bs,ByteArray.size]
 have:=Lib.run_copy_row_string (P:=prog) w 219 9 3 5 g k n n (bs l) (Y15 L) 5 underlying219 (by kernel_rfl) hL Z7 (by rw[hsz,YaF];exact hfit);rw[this,hsz]
 have e:(Y15 (Y5p L k l))=((Y15 L).toList.take k ++ Lib.byteCells (bs l).data.toList ++ (Y15 L).toList.drop (k+l.length)).toArray:=by
  simp[Y15,Y5p,Lib.byteCells,List.map_take,List.map_drop,bs]
 rw[e];rfl
def Y6Y(op:Int)(now:Bool)(flags:Int)(vs:List Nat)(words data:Int)(w:World)(e:Ending)(w':World):Prop:=
 ∃ev,e= .returned (.tuple #[.string (bs (Y1F op now flags vs words data).1),ev])∧Y1c w' ev (Y1F op now flags vs words data).2.1 (Y1F op now flags vs words data).2.2∧Below w.heap.size w w'
def RWr(r:HR)(vs:List Nat)(L0:List UInt8)(g:Nat)(w4:World)(i:Value)(wr:World):Prop:=
 ∃ (k:Nat) (L:List UInt8),k≤r.fields.length∧i= .int .i64 (k:Nat)∧L.length=48∧Y3u r.fields vs L0=Y3u (r.fields.drop k) (vs.drop k) L∧Blk wr g 5 (Y15 L)∧w4.grownBy wr (some g)
theorem Zy{P:Prop}(h:P:=by
 have hl5:wr.heap.size≤w5.heap.size:=by rw[←hw5];exact Z2t
 have e5: ∀p:Addr,p.block<wr.heap.size→w5.cell? p=wr.cell? p:=fun p hp=>by rw[←hw5];exact YeG _ _ _ hp
 have z3: ∀w',Below w5.heap.size w5 w'→w'.cell? ⟨w.heap.size,3,none⟩=some (.slice (some ⟨vb,vo,none⟩) vs.length sc):=fun w' h=>(h.cell (p:=⟨w.heap.size,3,none⟩) (Yee q8 hl5)).trans ((e5 _ q8).trans p3)
 have zx: ∀w',Below w5.heap.size w5 w'→w'.cell? ⟨vb,vo+k,none⟩=some (.int .u64 (x:Int)):=fun w' h=>(h.cell (p:=⟨vb,vo+k,none⟩) (Yee q9 hl5)).trans ((e5 _ q9).trans z0)
 have zs: ∀w',Below w5.heap.size w5 w'→w'.cell? ⟨wr.heap.size,2,none⟩=some (.int .i64 (f.size:Int)):=fun w' h=>(h.cell (p:=⟨wr.heap.size,2,none⟩) hN.lt).trans ((hN.cell 2).trans rfl)
 refine Z2Z ?_;intro hrf
 have cn:=fun w=>hid (put_ok x f.size w hx64 hs8 hfit)
 clear c1 c2 y0 y1 y2 z0 p3 hmk Heq
 exact Z4j):P:=h
theorem ZD{P Q:Prop}(k:Q)(h:Q→P:=by
 have hx64:=Hv.out x (Yer hxk)
 have hfit:=HF.out.fits k f x hfk hxk
 rw[Y6e r.fields vs L k f x hfk hxk]at heq
 have Heq:=hid heq
 obtain⟨y0,y1,y2⟩:=HFC.out k f hfk
 have y0:=(Y1i hO (p:=⟨fb,fo+k * 3,none⟩) hfb hfg).trans y0
 have y1:=(Y1i hO (p:=⟨fb,fo+k * 3+1,none⟩) hfb hfg).trans y1
 have y2:=(Y1i hO (p:=⟨fb,fo+k * 3+2,none⟩) hfb hfg).trans y2
 have z0:=((Y1i hO (p:=⟨vb,vo+k,none⟩) (Yee hvb b4.size) (by show vb≠_;exact Z7)).trans (b4.cell (p:=⟨vb,vo+k,none⟩) hvb)).trans (HVC.out k x hxk)
 have p3:=(Y1i hO (p:=⟨w.heap.size,3,none⟩) hlt2 (by show w.heap.size≠_;exact Z7)).trans HP3.out
 have hbl:=Y2n x f.size
 have hO2:=Y5t hO (.cells #[.string (bs f.name),.int .i64 (f.at_:Int),.int .i64 (f.size:Int)] 225)
 have hB2:=hB.below ((Yea _ _).alloc (Ye9 _) (.cells #[.string (bs f.name),.int .i64 (f.at_:Int),.int .i64 (f.size:Int)] 225))
 have hN:=Blk.new wr 225 #[.string (bs f.name),.int .i64 (f.at_:Int),.int .i64 (f.size:Int)]
 have q9:vb<wr.heap.size:=Z7
 have q8:w.heap.size<wr.heap.size:=Z7
 have hmx:prog.follows .mixedOrders=true:=by kernel_rfl
 have hklt:k<vs.length:=Z7
 clear heq
 refine fun z_=>?_
 revert hklt;revert hmx;revert q8;revert q9;revert hN;revert hB2;revert hO2;revert hbl;revert p3;revert z0;revert y2;revert y1;revert y0;revert Heq;revert hfit;revert hx64
 exact z_):P:=h k
theorem ZH{P:Prop}(h:P:=by
 intro w' hb'
 have hO3:=Y1h hO2 hb'
 have hB3:=hB2.below hb'
 have hN3:=hN.below hb'
 have y1':w'.cell? ⟨wr.heap.size,1,none⟩=some (.int .i64 (f.at_:Int)):=(hN3.cell 1).trans rfl
 have hsl:=Y9U (P:=prog) 219 5 underlying219 (by intro w;kernel_rfl) w1.heap.size 48 48 f.at_ Z7 Z7 w'
 have hcp:=copy_at w1.heap.size f.at_ L (be x f.size) (48 - f.at_) w' hB3 Z7 Z7
 have hst:=setRow_heap w' w1.heap.size (Y15 L) (Y15 (Y5p L f.at_ (be x f.size))) 5 (0,0) hB3
 have hpl:=Y5J L f.at_ (be x f.size) Z7
 clear c1 c2 y0 y1 y2 z0 p3 hmk
 go_wp2
 go_roundw
 case rel=>exact⟨k+1,_,by omega,by go_num,hpl.trans hL,Heq.out,hst,Yai hO3 _⟩
 case measure=>exact Zw):P:=h
theorem Z1Y{P:Prop}(h:P:=by
 ·exact Z2c):P:=h
theorem Z26{P Q:Prop}(k:Q)(h:Q→P:=by
 have hfg:fb≠w1.heap.size:=by
  intro e
  obtain⟨f,hf⟩: ∃f,r.fields[0]?=some f:=⟨r.fields[0],Yec hn0⟩
  have h1:=(hfc 0 f hf).1
  rw[e,B3.cell]at h1
  simp[Y15]at h1
 have HFC:=hid hfc
 have HB3:=hid B3
 have hlt2:w.heap.size<w2.heap.size:=B1b.lt
 have hg2:w1.heap.size<w2.heap.size:=B3.lt
 have q3':w2.cell? ⟨w.heap.size,3,none⟩=some (.slice (some ⟨vb,vo,none⟩) vs.length sc):=(B1b.cell 3).trans rfl
 have HP3:=hid q3'
 refine fun z_=>?_
 revert HP3;revert q3';revert hg2;revert hlt2;revert HB3;revert HFC;revert hfg
 exact z_):P:=h k
theorem Z2c{P:Prop}(h:P:=by
 obtain rfl:k=r.fields.length:=Z7
 rw[Y7b _ _ _ _ (Ye9 _)]at heq
 have hcv:=Y4M (P:=prog) wr 219 9 5 underlying219 underlying5 underlying9 L 48 w1.heap.size 5 (0,0) hB
 rw[hL]at hcv
 go_wp2
 go_ret2
 exact⟨_,by rw[HR.out,heq];rfl,by rw[HR.out];exact .nil,hbw⟩):P:=h
section
variable (op:Int)(now:Bool)(flags:Int)(v:Value)(vs:List Nat)(words data:Int)(w:World)(h0: -9223372036854775808≤op)(h1:op≤9223372036854775807)(g0: -9223372036854775808≤flags)(g1:flags≤9223372036854775807)
 (hn:vs.length≤9223372036854775807) (hv: ∀x∈vs,x≤18446744073709551615) (hsl:Sl w v 1 vs.length (Yb vs)) (hT:AS w) (hP:PT w)
include h0 h1 g0 g1 hn hv hsl hT hP
theorem Ycw:Calls prog 119 #[Y1A op now flags v,.int .i64 words,.int .i64 data] w fun e w'=>Y6Y op now flags vs words data w e w':=by
 have c1:=fun w1 (hb:Below w.heap.size w w1)=>hid (Y6q op now flags v vs w1 h0 h1 g0 g1 hn hv (hsl.below (Ye9 _) hb) (hT.below hb (Ye9 _)) (hP.below hb (Ye9 _)))
 have c2:=fun w1 (hb:Below w.heap.size w w1)=>hid (Y3O op h0 h1 w1 (hT.below hb (Ye9 _)) (hP.below hb (Ye9 _)))
 unfold Y4d at c1;unfold Y2X at c2;unfold Y6Y;have HSL:=hid hsl;obtain⟨sa,sc,rfl,hsl1,hsl2⟩:=hsl;clear hT hP hsl2;have b1:=(Yea w.heap.size w).alloc (Ye9 _) (.cells #[.int .i64 op,.bool now,.int .i64 flags,.slice sa vs.length sc] 60);have B1:=Blk.new w 60 #[.int .i64 op,.bool now,.int .i64 flags,.slice sa vs.length sc];by_cases hz:(Yo op now flags vs).1=0
 ·obtain⟨r,F⟩:=Y43 op now flags vs hz;have hop:=fit_op F;have hmem:=YR F.find;have hn0:=Y1Q r hmem;have hvl:0<vs.length:=by have:=F.len;exact Z7
  have hsz:=(YC r hmem).2.2.2.2.2.2.2;have hnf:=(YC r hmem).2.2.2.2.2.2.1;rw[F.all]at c1;rw[F.find]at c2;simp only[HErr,hE,errV,Y2y]at c2;have HF:=hid F;have hlow:=F.low;have hfl0:=F.flags0;have hfl1:=F.flags1;have hlen:=F.len;have Hsz:=hid hsz;have Hv:=hid hv;clear hsz hv hz hmem F hsl1;have hmk: ∀w,(Instr.makeSlice 219 (.int .i64 48) (.int .i64 48)).run prog w= .ok (.slice (some ⟨w.heap.size,0,none⟩) 48 48) (w.alloc (.cells (Y15 (List.replicate 48 0)) 5)):=Y7r (P:=prog) 219 5 underlying219 infoB 48 Z7
  go_enter func119,ntmps119;unfold Y1A;go_wp2_with fail;refine(c1 _ b1).out.mono ?_;rintro e w1 ⟨ev,rfl,her,hb1⟩;obtain rfl:=Y3S her;have B1:=B1.below hb1;have b1:=b1.trans (hb1.mono b1.size);clear her hb1;by_cases hw:words<0∨255<words∨data<0∨16777215<data
  ·have HR:=hid (show Y1F op now flags vs words data=([],4,-1) by simp only[Y1F,HF.out.all];rw[Yed Z2t,Yei hw]);have hw:words<0∨(¬words<0∧255<words)∨(¬words<0∧ ¬255<words∧data<0)∨(¬words<0∧ ¬255<words∧ ¬data<0∧16777216≤data):=Z7;rcases hw with a1 | ⟨a1,a2⟩ | ⟨a1,a2,a3⟩ | ⟨a1,a2,a3,a4⟩
   all_goals
    go_wp2;go_ret2;exact⟨_,by rw[HR.out];rfl,by rw[HR.out];exact .bare 4 Z7,b1⟩
  ·refine Z3q ?_;intro q0 q1 q2 q3 HR;have a1: ¬words<0:=Z7;have a2: ¬255<words:=Z7;have a3: ¬data<0:=Z7;have a4: ¬16777216≤data:=Z7;clear hw;have p0:w1.cell? ⟨w.heap.size,0,none⟩=some (.int .i64 op):=(B1.cell 0).trans rfl;have p1:w1.cell? ⟨w.heap.size,1,none⟩=some (.bool now):=(B1.cell 1).trans rfl;have p2:w1.cell? ⟨w.heap.size,2,none⟩=some (.int .i64 flags):=(B1.cell 2).trans rfl;have hlt:=B1.lt
   have hL0:=Y3P op now flags words data;have hC: ∀a0:Int,((UInt8.ofNat (op.toNat+if now then 64 else 0)).toNat:Int)=a0→_:=fun a0 h=>Yc4 (UInt8.ofNat (op.toNat+if now then 64 else 0)) a0 flags words data h hfl0 hfl1 q0 q1 q2 q3
   change ∀a0:Int,((UInt8.ofNat (op.toNat+if now then 64 else 0)).toNat:Int)=a0→_=Y15 (Y58 op now flags words data)at hC;have hC:(now=false→_)∧(now=true→_):=⟨fun e=>hC op (by subst e;exact Zd),fun e=>hC (op+64) (by subst e;have:=hlow rfl;exact Zd)⟩;have HC:=hid hC;generalize Y58 op now flags words data=L0 at *;have b3:=b1.alloc b1.size (.cells (Y15 L0) 5);have hs1:=b1.size;have B3:=Blk.new w1 5 (Y15 L0)
   have B1a:=B1.below ((Yea _ _).alloc (Ye9 _) (.cells (Y15 L0) 5));clear hC;obtain⟨vb,vo,vc,hve,hvb,hvc⟩:=Y21 HSL.out hvl
   cases hve
   have HVC:=hid hvc;clear hvc
   cases now
   case' false =>
    go_wp2_with fail;rw[HC.out.1 trivial]
   case' true =>
    have hor:=or64 op hop.1 (hlow rfl);go_wp2_with fail;rw[HC.out.2 trivial]
   ·refine(c2 _ b3).out.mono ?_;rintro e w2 ⟨fv,rfl,hfs,_,hb2⟩;have B3:=B3.below hb2;have B1b:=B1a.below hb2;have b4:=b3.trans (hb2.mono b3.size);have hs2:=hb2.size;obtain⟨fb,fo,fc,rfl,hfb,hfc⟩:=Y1m hfs hn0;refine Z26 ?_;intro hfg HFC HB3 hlt2 hg2 q3' HP3;clear hfc hfs B3 B1a B1b hb2 q3' p0 p1 p2;go_wp2;go_loopw [80] (fun i wr=>RWr r vs L0 w1.heap.size w2 i wr) (fun i _=>r.fields.length - (intOf i).toNat)
    case atStart=>exact⟨0,L0,by omega,rfl,hL0,rfl,HB3.out,Y1p _ _⟩
    case round =>
     obtain⟨k,L,hk,rfl,hL,heq,hB,hO⟩:=hrel;have hsz:=hO.size;have hbw:=Y2W b4 hO hs1 b4.size;by_cases hlt:k<r.fields.length
     ·refine Z4f ?_;intro f hfk;obtain⟨x,hxk⟩: ∃x,vs[k]?=some x:=⟨vs[k]' Z7,Yec _⟩;obtain⟨_,_,_,_,hat,hs0,hs8⟩:=Hsz.out f (Yer hfk);refine ZD ?_;clear heq hfk hxk;intro hx64 hfit Heq y0 y1 y2 z0 p3 hbl hO2 hB2 hN q9 q8 hmx hklt;go_wp2;generalize hw5:wr.alloc (.cells #[.string (bs f.name),.int .i64 (f.at_:Int),.int .i64 (f.size:Int)] 225)=w5 at *;refine YeS (n:=4).1 ?_
      refine Y2w (aF:= ?kF0) [(86,.pointer (some ⟨w.heap.size,3,none⟩)),(87,.slice (some ⟨vb,vo,none⟩) vs.length sc),(88,.int .i64 (k:Nat)),(89,.pointer (some ⟨vb,vo+k,none⟩)),(90,.int .u64 (x:Nat)),(91,.pointer (some ⟨wr.heap.size,2,none⟩)),(92,.int .i64 (f.size:Nat)),(93,.tuple #[.string (bs (be x f.size)),.nilIface]),(85,.tuple #[.string (bs (be x f.size)),.nilIface]),(94,.string (bs (be x f.size))),(95,.nilIface),(14,.string (bs (be x f.size))),(15,.nilIface)] (fun w'=>Below w5.heap.size w5 w') ?kaf0 hmx (by kernel_rfl) (by kernel_rfl) (fun w w' h hb=>h.trans (hb.mono h.size)) (Yea _ _).drew ?keach0 ?kgo0
      case kaf0 =>
       exact Za
      case keach0 =>
       exact Zy
      case kgo0 =>
       exact ZH
     exact Z1Y
   ·refine(c2 _ b3).out.mono ?_;rintro e w2 ⟨fv,rfl,hfs,_,hb2⟩;have B3:=B3.below hb2;have B1b:=B1a.below hb2;have b4:=b3.trans (hb2.mono b3.size);have hs2:=hb2.size;obtain⟨fb,fo,fc,rfl,hfb,hfc⟩:=Y1m hfs hn0;refine Z26 ?_;intro hfg HFC HB3 hlt2 hg2 q3' HP3;clear hfc hfs B3 B1a B1b hb2 q3' p0 p1 p2;go_wp2;go_loopw [80] (fun i wr=>RWr r vs L0 w1.heap.size w2 i wr) (fun i _=>r.fields.length - (intOf i).toNat)
    case atStart=>exact⟨0,L0,by omega,rfl,hL0,rfl,HB3.out,Y1p _ _⟩
    case round =>
     obtain⟨k,L,hk,rfl,hL,heq,hB,hO⟩:=hrel;have hsz:=hO.size;have hbw:=Y2W b4 hO hs1 b4.size;by_cases hlt:k<r.fields.length
     ·refine Z4f ?_;intro f hfk;obtain⟨x,hxk⟩: ∃x,vs[k]?=some x:=⟨vs[k]' Z7,Yec _⟩;obtain⟨_,_,_,_,hat,hs0,hs8⟩:=Hsz.out f (Yer hfk);refine ZD ?_;clear heq hfk hxk;intro hx64 hfit Heq y0 y1 y2 z0 p3 hbl hO2 hB2 hN q9 q8 hmx hklt;go_wp2;generalize hw5:wr.alloc (.cells #[.string (bs f.name),.int .i64 (f.at_:Int),.int .i64 (f.size:Int)] 225)=w5 at *;refine YeS (n:=4).1 ?_
      refine Y2w (aF:= ?kF1) [(86,.pointer (some ⟨w.heap.size,3,none⟩)),(87,.slice (some ⟨vb,vo,none⟩) vs.length sc),(88,.int .i64 (k:Nat)),(89,.pointer (some ⟨vb,vo+k,none⟩)),(90,.int .u64 (x:Nat)),(91,.pointer (some ⟨wr.heap.size,2,none⟩)),(92,.int .i64 (f.size:Nat)),(93,.tuple #[.string (bs (be x f.size)),.nilIface]),(85,.tuple #[.string (bs (be x f.size)),.nilIface]),(94,.string (bs (be x f.size))),(95,.nilIface),(14,.string (bs (be x f.size))),(15,.nilIface)] (fun w'=>Below w5.heap.size w5 w') ?kaf1 hmx (by kernel_rfl) (by kernel_rfl) (fun w w' h hb=>h.trans (hb.mono h.size)) (Yea _ _).drew ?keach1 ?kgo1
      case kaf1 =>
       exact Za
      case keach1 =>
       exact Zy
      case kgo1 =>
       exact ZH
     exact Z1Y
 ·have HR:=hid (show Y1F op now flags vs words data=([],Yo op now flags vs) by simp[Y1F,hz]);generalize Yo op now flags vs=R at *;obtain⟨y1,y2⟩:=R;go_enter func119,ntmps119;unfold Y1A;go_wp2_with fail;refine(c1 _ b1).out.mono ?_;rintro e w1 ⟨ev,rfl,her,hb⟩;have Her:=hid her
  cases her with
  | nil=>exact absurd rfl hz
  | bare k h =>
   go_wp2;go_ret2;exact⟨_,by rw[HR.out];rfl,by rw[HR.out];exact Her.out,b1.trans (hb.mono b1.size)⟩
  | at_ k h pl b h0 h1 =>
   clear h0 h1;go_wp2;go_ret2;exact⟨_,by rw[HR.out];rfl,by rw[HR.out];exact Her.out,b1.trans (hb.mono b1.size)⟩
end
end
section
open Go.Proofs.Tryz
open Go Go.RowKit
theorem Yap:(prog.info? 106).map (fun i=>(i.zero,i.size,i.bytes))=some (some (.int .u64 0),1,8):=by kernel_rfl
def HC(op:Int)(now:Bool)(flags:Int)(v:Value):Array Value:= #[.int .i64 op,.bool now,.int .i64 flags,v]
theorem own_sl{w:World}{base:Nat}{e:TypeId}{size n:Nat}{v:Value}{xs:List Value}(h:w.ownsRow base e size v n xs): ∃A cap,v= .slice A n cap:=by
 rcases h.2 with ⟨rfl,rfl⟩ | ⟨g,cap,cur,rfl,_⟩
 ·exact⟨_,_,rfl⟩
 ·exact⟨_,_,rfl⟩
structure Y1Z(h:Nat)(W w:World):Prop where
 size:W.heap.size≤w.heap.size
 keep: ∀b,b<W.heap.size→b≠h→w.heap[b]?=W.heap[b]?
theorem Y1Z.cell{h:Nat}{W w:World}(k:Y1Z h W w){p:Addr}(hp:p.block<W.heap.size)(hn:p.block≠h):w.cell? p=W.cell? p:=by
 unfold World.cell?;rw[k.keep _ hp hn]
theorem Y1Z.refl(h:Nat)(W:World):Y1Z h W W:=⟨Ye9 _,fun _ _ _=>rfl⟩
theorem Y1Z.below{h:Nat}{W w w':World}(k:Y1Z h W w)(hb:Below w.heap.size w w'):Y1Z h W w':=
 ⟨Yeu k.size hb.size,fun b h1 h2=>(hb.block b (Yee h1 k.size)).trans (k.keep b h1 h2)⟩
theorem Y1Z.set{h:Nat}{W w:World}(k:Y1Z h W w)(i:Nat)(u:Value):Y1Z h W (w.setCell ⟨h,i,none⟩ u):=
 ⟨by simpa[World.setCell]using k.size,fun b h1 h2=>(YeN w ⟨h,i,none⟩ u b h2).trans (k.keep b h1 h2)⟩
theorem Y1Z.grown{h:Nat}{W w w':World}(k:Y1Z h W w){e:TypeId}{size n:Nat}{v:Value}{xs:List Value}(hown:w.ownsRow W.heap.size e size v n xs)(hg:w.grownBy w' v.ownBlock):Y1Z h W w':=
 ⟨Yeu k.size hg.size,fun b h1 h2=>(hg.block b (Yee h1 k.size) (fun e=>by have:=(hown.lt b e.symm).1;omega)).trans (k.keep b h1 h2)⟩
end
end Go.Proofs.YtfadikchijkcfaaGreatDoor
