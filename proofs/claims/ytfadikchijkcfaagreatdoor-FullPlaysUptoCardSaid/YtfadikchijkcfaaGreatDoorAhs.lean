/- api.Tell, plain.Place, and the laws' bare and placed, by contracts: an error is nil, an Errno, or an At. -/
import Derived.Test.YtfadikchijkcfaaGreatDoorParsePure
import Derived.Test.YtfadikchijkcfaaGreatDoorErrB
import Derived.Deep.QuietTactic
import Derived.BigQuiet
import Derived.Test.YtfadikchijkcfaaGreatDoorUnpad
import Derived.Test.YtfadikchijkcfaaGreatDoorField
import Derived.Maps.AppendAt
import Derived.Test.YtfadikchijkcfaaGreatDoorPUint
set_option linter.unusedVariables false
set_option linter.unusedSectionVars false
set_option linter.unusedSimpArgs false
set_option maxRecDepth 100000
set_option maxHeartbeats 4000000
namespace Go.Proofs.YtfadikchijkcfaaGreatDoor
section
open Go.Proofs.Tryz
open Go.RowKit Go.Extern.Stop Go.Stop Go.Extern
def Y2e(w:World):Prop:=w.cell? ⟨0,0,none⟩=some (.iface 323 (.agg #[.pointer (some ⟨13,43,none⟩)]))
theorem Y2e.lt{w:World}(h:Y2e w):0<w.heap.size:=by
 unfold Y2e at h;rcases YeU 0 w.heap.size with h0 | h1
 ·exact h0
 ·simp[World.cell?,YeA h1]at h
theorem Y2e.below{w w':World}(h:Y2e w)(hb:Below w.heap.size w w'):Y2e w':=by
 have:=hb.cell (p:=⟨0,0,none⟩) h.lt;unfold Y2e;rw[this];exact h
theorem Y2e.alloc{w:World}(h:Y2e w)(o:Obj):Y2e (w.alloc o):=h.below ((Yea _ _).alloc (Ye9 _) _)
inductive Y1c(w:World):Value→Nat→Int→Prop
 | nil:Y1c w .nilIface 0 (-1)
 | bare (k:Nat) (h:0<k):Y1c w (.iface 36 (.int .i64 (k:Int))) k (-1)
 | at_ (k:Nat) (h:0<k) (pl:Int) (b:Nat) (h0:w.cell? ⟨b,0,none⟩=some (.int .i64 (k:Int))) (h1:w.cell? ⟨b,1,none⟩=some (.int .i64 pl)):Y1c w (.iface 120 (.pointer (some ⟨b,0,none⟩))) k pl
theorem Y1c.below{w w':World}{v:Value}{k:Nat}{pl:Int}(h:Y1c w v k pl)(hb:Below w.heap.size w w'):Y1c w' v k pl:=by
 cases h with
 | nil=>exact .nil
 | bare k h=>exact .bare k h
 | at_ k h pl b h0 h1 =>
  have hl:b<w.heap.size:=Yeb h0;exact .at_ k h pl b ((hb.cell (p:=⟨b,0,none⟩) hl).trans h0) ((hb.cell (p:=⟨b,1,none⟩) hl).trans h1)
theorem Y1c.errV(w:World)(k:Nat):Y1c w (errV 36 k) k (-1):=by
 by_cases h:k=0
 ·subst h;exact .nil
 ·rw[Y1o _ _ Z7];exact .bare k Z7
theorem Y4Q(v:Value)(k:Nat)(pl:Int)(w:World)(hg:Y2e w)(hv:Y1c w v k pl):
 Calls prog 40 #[v] w fun e w'=>e= .returned (.int .i64 (k:Int))∧Below w.heap.size w w':=by
 cases hv with
 | nil =>
  go_enter func40,ntmps40;go_wp2;go_ret;exact⟨rfl,Yea _ _⟩
 | bare k h =>
  have h84:=as_hit (k:Int) ⟨w.heap.size,0,none⟩ (.int .i64 0) (w.alloc (.cells #[.int .i64 0] 36)) (hg.alloc _) Z2t Z2t;have H84:=hid h84;clear h84 h;go_enter func40,ntmps40;go_wp2_with (go_at_call 88;refine H84.out.mono ?_;rintro e w1 ⟨rfl,hc1,hb1⟩;clear H84);go_ret;exact⟨rfl,(((Yea _ _).alloc (Ye9 _) _).setCell (p:=⟨w.heap.size,0,none⟩) (Ye9 _) _).trans (hb1.mono Z2t)⟩
 | at_ k h pl b h0 h1 =>
  have hl:b<w.heap.size:=Yeb h0;have h84:=as_at (k:Int) pl ⟨b,0,none⟩ ⟨w.heap.size,0,none⟩ (.int .i64 0) (w.alloc (.cells #[.int .i64 0] 36)) (hg.alloc _) Z2t Z2t rfl (by rw[YeG _ _ _ hl];exact h0);have H84:=hid h84;clear h84 h;go_enter func40,ntmps40;go_wp2_with (go_at_call 88;refine H84.out.mono ?_;rintro e w1 ⟨rfl,hc1,hb1⟩;clear H84);go_ret;exact⟨rfl,(((Yea _ _).alloc (Ye9 _) _).setCell (p:=⟨w.heap.size,0,none⟩) (Ye9 _) _).trans (hb1.mono Z2t)⟩
theorem Y9Q(v:Value)(w:World):(Instr.typeAssert (.iface 36 v) 43 120 true).run prog w= .ok (.tuple #[.pointer none,.bool false]) w:=by kernel_rfl
theorem ta_at_at(v:Value)(w:World):(Instr.typeAssert (.iface 120 v) 43 120 true).run prog w= .ok (.tuple #[v,.bool true]) w:=by kernel_rfl
theorem Y95(v:Value)(k:Nat)(pl:Int)(w:World)(hg:Y2e w)(hv:Y1c w v k pl):
 Calls prog 42 #[v] w fun e w'=>e= .returned (.tuple #[.int .i64 (k:Int),.int .i64 pl])∧Below w.heap.size w w':=by
 have ht:=Y4Q v k pl w hg hv;have Ht:=hid ht;clear ht
 cases hv with
 | nil =>
  go_enter func42,ntmps42;go_wp2_with (go_at_call 40;refine Ht.out.mono ?_;rintro e w1 ⟨rfl,hb1⟩;clear Ht);refine Yf7 1 ?_;rw[Yf5];go_wp2;go_ret2;exact⟨rfl,hb1⟩
 | bare k h =>
  have ta2: ∀ (v:Value) (w:World),(Instr.typeAssert (.iface 36 v) 43 198 true).run prog w= .ok (.tuple #[.nilIface,.bool false]) w:=
   fun v w=>run_typeAssert_lacksB underlying198 (by kernel_rfl) (by kernel_rfl) v _ w
  clear h;have ta1:=Y9Q;go_enter func42,ntmps42;go_wp2_with (go_at_call 40;refine Ht.out.mono ?_;rintro e w1 ⟨rfl,hb1⟩;clear Ht);refine Yf7 1 ?_;rw[Yf5];go_wp2;go_ret2;exact⟨rfl,hb1⟩
 | at_ k h pl b h0 h1 =>
  have hl:b<w.heap.size:=Yeb h0;have ta1:=ta_at_at;go_enter func42,ntmps42;go_wp2_with (go_at_call 40;refine Ht.out.mono ?_;rintro e w1 ⟨rfl,hb1⟩;clear Ht);have h01:=(hb1.cell (p:=⟨b,0,none⟩) hl).trans h0;have h11:=(hb1.cell (p:=⟨b,1,none⟩) hl).trans h1;clear h0 h1 h;refine Yf7 1 ?_;rw[Yf5];go_wp2;go_quiet (fail);go_wp2;go_ret2;exact⟨rfl,Yfk hb1 _⟩
theorem bare_ok(v:Value)(k:Nat)(w:World)(hg:Y2e w)(hv:Y1c w v k (-1)):
 Calls prog 19 #[v,.int .i64 (k:Int)] w fun e w'=>e= .returned (.bool true)∧Below w.heap.size w w':=by
 have hp:=hid (Y95 v k (-1) w hg hv);clear hv hg;go_enter func19,ntmps19;go_wp2_with (go_at_call 42;refine hp.out.mono ?_;rintro e w1 ⟨rfl,hb1⟩;clear hp);go_ret;exact⟨rfl,hb1⟩
theorem Yd8(v:Value)(k:Nat)(pl:Int)(w:World)(hg:Y2e w)(hv:Y1c w v k pl):
 Calls prog 11 #[v,.agg #[.int .i64 (k:Int),.int .i64 pl]] w fun e w'=>e= .returned (.bool true)∧Below w.heap.size w w':=by
 have hp:=fun w' (hb:Below w.heap.size w w')=>hid (Y95 v k pl w' (hg.below hb) (hv.below hb))
 clear hv hg;go_enter func11,ntmps11;go_wp2_with (go_at_call 42;refine(hp _ ((Yea _ _).alloc (Ye9 _) _)).out.mono ?_;rintro e w1 ⟨rfl,hb1⟩;clear hp;have c0:w1.cell? ⟨w.heap.size,0,none⟩=some (.int .i64 (k:Int)):=(hb1.cell (p:=⟨w.heap.size,0,none⟩) Z2t).trans Z2t;have c1:w1.cell? ⟨w.heap.size,1,none⟩=some (.int .i64 pl):=(hb1.cell (p:=⟨w.heap.size,1,none⟩) Z2t).trans Z2t);go_ret
 exact⟨rfl,((Yea _ _).alloc (Ye9 _) _).trans (hb1.mono Z2t)⟩
theorem Z46{P:Prop}(h:P:=by
 go_wp2
 refine Yf7 1 ?_
 rw[Yf5]
 go_wp2
 go_ret
 exact⟨⟨.nilIface,rfl,.nil⟩,Yea _ _⟩):P:=h
end
section
open Go.Proofs.Tryz
open Go.RowKit
def Y8y(I:Nat→Int×List UInt8):Nat→Nat→Nat→Nat×Int
 | 0,_,_=>(0,-1)
 | r+1,i,n=>if(I i).1<0∨255< (I i).1 then(2,i)else if 1020< (I i).2.length∨1020<n+3+(I i).2.length+Y97 (3+(I i).2.length)then(4,i)else Y8y I r (i+1) (n+(3+(I i).2.length+Y97 (3+(I i).2.length)))
def ahsB(I:Nat→Int×List UInt8):Nat→Nat→List UInt8→List UInt8
 | 0,_,out=>out
 | r+1,i,out=>ahsB I r (i+1) (out ++ Y7n (be (I i).2.length 2 ++ [UInt8.ofNat (I i).1.toNat] ++ (I i).2))
def Y7a(w:World)(v:Value)(n:Nat)(I:Nat→Int×List UInt8):Prop:=
 n≤maxLen∧((v= .slice none 0 0∧n=0)∨ ∃a cap,v= .slice (some a) n cap)∧
  ∀a m cap,v= .slice (some a) m cap→ ∀k,k<n→w.cell? (a.add (k * 2))=some (.int .i64 (I k).1)∧w.cell? (a.add (k * 2+1))=some (.string (bs (I k).2))∧ -9223372036854775808≤(I k).1∧(I k).1≤9223372036854775807∧(I k).2.length≤maxLen
theorem Y7a.below{w w':World}{v:Value}{n:Nat}{I:Nat→Int×List UInt8}(h:Y7a w v n I)(hb:Below w.heap.size w w'):Y7a w' v n I:=by
 obtain⟨h1,h2,h3⟩:=h;refine⟨h1,h2,fun a m cap e k hk=> ?_⟩;obtain⟨c0,c1,hr⟩:=h3 a m cap e k hk;exact⟨(hb.cell (Yeb c0)).trans c0,(hb.cell (Yeb c1)).trans c1,hr⟩
def RAhsW(I:Nat→Int×List UInt8)(n:Nat)(w:World)(sum i:Value)(wr:World):Prop:=
 ∃k m:Nat,k≤n∧m≤1020∧i= .int .i64 (k:Nat)∧sum= .int .i64 (m:Nat)∧Y8y I n 0 0=Y8y I (n - k) k m∧Below w.heap.size w wr
theorem ZF{P Q:Prop}(k:Q)(h:Q→P:=by
 have g0:wr.cell? (a.add (k * 2))=_:=(hb.cell (Yeb c0)).trans c0
 have e1:(⟨(a.add (k * 2)).block,(a.add (k * 2)).off+1,none⟩:Addr)=a.add (k * 2+1):=by
  unfold Addr.add
  rcases Nat.eq_zero_or_pos k with h | h
  ·subst h
   exact Z2t
  ·rw[Yed Z7,Yed Z7]
   simp[YeT]
 have g1:wr.cell? ⟨(a.add (k * 2)).block,(a.add (k * 2)).off+1,none⟩=_:=(Yeg wr.cell? e1).trans ((hb.cell (Yeb c1)).trans c1)
 refine fun z_=>?_
 revert g1;revert e1;revert g0
 exact z_):P:=h k
theorem Y9z(v:Value)(n:Nat)(I:Nat→Int×List UInt8)(w:World)(h:Y7a w v n I):
 Calls prog 111 #[v] w fun e w'=>(∃er,e= .returned er∧Y1c w' er (Y8y I n 0 0).1 (Y8y I n 0 0).2)∧Below w.heap.size w w':=by
 obtain⟨hn,hv,hcell⟩:=h;unfold maxLen at hn;rcases hv with ⟨rfl,rfl⟩ | ⟨a,cap,rfl⟩
 ·go_enter func111,ntmps111;exact Z46
 have Hcell:=hid (hcell a n cap rfl);clear hcell;go_enter func111,ntmps111;go_wp2;go_loopw [3,8] (fun sum i wr=>RAhsW I n w sum i wr) (fun _ i _=>n - (intOf i).toNat)
 case atStart=>exact⟨0,0,by omega,by omega,rfl,rfl,rfl,Yea _ _⟩
 case round =>
  obtain⟨k,m,hk,hm,rfl,rfl,heq,hb⟩:=hrel;have hB:=hb.size;by_cases hlt:k<n
  ·obtain⟨c0,c1,hr0,hr1,hd⟩:=Hcell.out k hlt;refine ZF ?_;intro g0 e1 g1;clear e1;obtain⟨r,hr⟩: ∃r,n - k=r+1:=⟨n - k - 1,by omega⟩;rw[hr,Y8y]at heq;clear c0 c1;generalize I k=x at *;obtain⟨kd,d⟩:=x;simp only at *;unfold maxLen at hd;have Heq:=hid heq;clear heq;by_cases hkd:kd<0∨255<kd
   ·rcases hkd with hkd | hkd
    ·go_wp2;go_ret;refine⟨⟨_,rfl,?_⟩,(hb.alloc hB _).alloc Zd _⟩;rw[Heq.out,Yei (.inl hkd)];exact .at_ 2 Z7 k (wr.heap.size+1) Z2t Z2t
    ·have hkd': ¬kd<0:=Z7;go_wp2;go_ret;refine⟨⟨_,rfl,?_⟩,(hb.alloc hB _).alloc Zd _⟩;rw[Heq.out,Yei (.inr hkd)];exact .at_ 2 Z7 k (wr.heap.size+1) Z2t Z2t
   ·have hkd0: ¬kd<0:=Z7;have hkd1: ¬255<kd:=Z7;by_cases hd1:1020<d.length
    ·have hdb:decide ((1020:Int) < (d.length:Int))=true:=Yel Z7;go_wp2;go_quiet (fail);have hb2:=Yfk (hb.alloc hB (.cells #[.int .i64 kd,.string (bs d)] 169 (0,0))) nq;have hB2:=hb2.size;generalize World.drewN _ nq=w2 at *;go_wp2;go_ret;refine⟨⟨_,rfl,?_⟩,hb2.alloc hB2 _⟩;rw[Heq.out,Yed Z7,Yei (.inl hd1)];exact .at_ 4 Z7 k w2.heap.size Z2t Z2t
    ·have c1: ∀w,Hid (Calls prog 158 #[.int .i64 (3+(d.length:Int))] w fun e w'=>e= .returned (.int .i64 (Y97 (3+d.length):Nat))∧w'=w):=by
      intro w;have:=pad_nat (3+d.length) w Z7;rw[show((3+d.length:Nat):Int)=3+(d.length:Int)from by omega]at this;exact hid (this.mono fun _ _ ⟨h1,h2⟩=>⟨h1,h2.symm⟩)
     have hp4:=Yaf (3+d.length);generalize Y97 (3+d.length)=p at *;have hdb:decide ((1020:Int) < (d.length:Int))=false:=Yeh Z7;have s1:IntKind.i64.wrap ((m:Int) +3)=(m:Int) +3:=ZZ;have s2:IntKind.i64.wrap ((m:Int) +3+d.length)=(m:Int) +3+d.length:=ZZ;have s3:IntKind.i64.wrap ((m:Int) +3+d.length+p)=(m:Int) +3+d.length+p:=ZZ;have s4:IntKind.i64.wrap (3+(d.length:Int))=3+(d.length:Int):=ZZ
     go_wp2;go_quiet ((go_at_call 158;exact Calls.quiet_of_same (c1 _).out));have hb2:=Yfk (hb.alloc hB (.cells #[.int .i64 kd,.string (bs d)] 169 (0,0))) nq;have hB2:=hb2.size;by_cases hlim:1020<m+3+d.length+p
     ·have hlb:decide ((1020:Int) < (m:Int) +3+d.length+p)=true:=Yel Z7;generalize World.drewN _ nq=w2 at *;go_wp2;go_ret;refine⟨⟨_,rfl,?_⟩,hb2.alloc hB2 _⟩;rw[Heq.out,Yed Z7,Yei (.inr hlim)];exact .at_ 4 Z7 k w2.heap.size Z2t Z2t
     ·have hlb:decide ((1020:Int) < (m:Int) +3+d.length+p)=false:=Yeh Z7;have hbk:=YeC wr (.cells #[.int .i64 kd,.string (bs d)] 169 (0,0));have hc1:(World.drewN (wr.alloc (.cells #[.int .i64 kd,.string (bs d)] 169 (0,0))) nq).cell? ⟨wr.heap.size,1,none⟩=some (.string (bs d)):=by rw[World.cell?_drewN,YeJ _ _ _ _ _ _ hbk];rfl
      clear hbk;generalize World.drewN _ nq=w2 at *;have s5:IntKind.i64.wrap (3+(d.length:Int) +p)=3+(d.length:Int) +p:=ZZ;have s6:IntKind.i64.wrap ((m:Int) +(3+(d.length:Int) +p))=(m:Int) +(3+(d.length:Int) +p):=ZZ;go_wp2;go_quiet ((go_at_call 158;exact Calls.quiet_of_same (c1 _).out));have hb3:=Yfk hb2 nq;go_wp2;go_roundw
      case rel=>exact⟨k+1,m+(3+d.length+p),by omega,by omega,by go_num,by go_num,by rw[Heq.out,Yed Z7,Yed Z7];congr 1;omega,hb3⟩
      case measure=>exact Zw
  ·obtain rfl:k=n:=Z7;go_wp2;go_ret;refine⟨⟨_,rfl,?_⟩,hb⟩;rw[heq,Nat.sub_self];exact .nil
end
section
open Go.RowKit
theorem YdX(kd:Int)(h0:0≤kd)(h1:kd≤255):IntKind.u8.wrap kd=((UInt8.ofNat kd.toNat).toNat:Nat):=by
 rw[IntKind.wrap_u8];exact Zd
end
section
open Go.Proofs.Tryz
open Go.RowKit
def RAhsWrR(I:Nat→Int×List UInt8)(n:Nat)(w:World)(out i:Value)(wr:World):Prop:=
 ∃ (k:Nat) (o:List UInt8),k≤n∧o.length≤1020∧i= .int .i64 (k:Nat)∧out= .string (bs o)∧Y8y I n 0 0=Y8y I (n - k) k o.length∧ahsB I n 0 []=ahsB I (n - k) k o∧Below w.heap.size w wr∧w.heap.size<wr.heap.size∧
  wr.heap[w.heap.size]?=some (.cells #[.int .i64 0,.int .i64 0] 38 (0,0))
def Y7J(I:Nat→Int×List UInt8)(n:Nat)(w:World)(e:Ending)(w':World):Prop:=
 e= .returned (.tuple #[.string (bs (if(Y8y I n 0 0).1=0 then ahsB I n 0 []else [])),YS (Y8y I n 0 0).1 (Y8y I n 0 0).2])∧Below w.heap.size w w'
theorem Zi{P Q:Prop}(k:Q)(h:Q→P:=by
 have hc0:w2.cell? ⟨wr.heap.size,0,none⟩=some (.int .i64 kd):=(hb2.cell (p:=⟨wr.heap.size,0,none⟩) hsA).trans (by rw[YeJ _ _ _ _ _ _ Hbk.out];rfl)
 have hc1:w2.cell? ⟨wr.heap.size,1,none⟩=some (.string (bs d)):=(hb2.cell (p:=⟨wr.heap.size,1,none⟩) hsA).trans (by rw[YeJ _ _ _ _ _ _ Hbk.out];rfl)
 have hbB:=hbA.trans (hb2.mono hbA.size)
 have hc1a:=fun o=>(((Yea w2.heap.size w2).alloc (Ye9 _) o).cell (p:=⟨wr.heap.size,1,none⟩) (Yee hsA hb2.size)).trans hc1
 have hszA:w.heap.size< (wr.alloc (.cells #[.int .i64 kd,.string (bs d)] 169 (0,0))).heap.size:=Nat.lt_trans hsz hsA
 have hsz2:w.heap.size<w2.heap.size:=Yee hszA hb2.size
 have q0:=(hb2.cell (p:=⟨w.heap.size,0,none⟩) hszA).trans q0a
 have q1:=(hb2.cell (p:=⟨w.heap.size,1,none⟩) hszA).trans q1a
 have f0:=(hb2.frozen (p:=⟨w.heap.size,0,none⟩) hszA).trans f0a
 have f1:=(hb2.frozen (p:=⟨w.heap.size,1,none⟩) hszA).trans f1a
 have hblk2:=(hb2.block w.heap.size hszA).trans ((hb1.block w.heap.size hsz).trans Hblk.out)
 have Hblk2:=hid hblk2
 clear hblk2
 have q0y:=fun o=>(((Yea w2.heap.size w2).alloc (Ye9 _) o).cell (p:=⟨w.heap.size,0,none⟩) hsz2).trans q0
 have q1y:=fun o=>(((Yea w2.heap.size w2).alloc (Ye9 _) o).cell (p:=⟨w.heap.size,1,none⟩) hsz2).trans q1
 have f0y:=fun o=>(((Yea w2.heap.size w2).alloc (Ye9 _) o).frozen (p:=⟨w.heap.size,0,none⟩) hsz2).trans f0
 have f1y:=fun o=>(((Yea w2.heap.size w2).alloc (Ye9 _) o).frozen (p:=⟨w.heap.size,1,none⟩) hsz2).trans f1
 have b0y: ∀ (x y:Value) (o:Obj),(((w2.setCell ⟨w.heap.size,0,none⟩ x).setCell ⟨w.heap.size,1,none⟩ y).alloc o).cell? ⟨w.heap.size,0,none⟩=some x:=(fun x y o=>(((Yea _ _).alloc (Ye9 _) o).cell (p:=⟨w.heap.size,0,none⟩) (by simp;exact Z7)).trans (by simp[go_sem,q0]))
 have b1y: ∀ (x y:Value) (o:Obj),(((w2.setCell ⟨w.heap.size,0,none⟩ x).setCell ⟨w.heap.size,1,none⟩ y).alloc o).cell? ⟨w.heap.size,1,none⟩=some y:=(fun x y o=>(((Yea _ _).alloc (Ye9 _) o).cell (p:=⟨w.heap.size,1,none⟩) (by simp;exact Z7)).trans (by simp[go_sem,q1]))
 refine fun z_=>?_
 revert b1y;revert b0y;revert f1y;revert f0y;revert q1y;revert q0y;revert Hblk2;revert f1;revert f0;revert q1;revert q0;revert hsz2;revert hszA;revert hc1a;revert hbB;revert hc1;revert hc0
 exact z_):P:=h k
theorem Z4S{P:Prop}(h:P:=by
 refine⟨by rw[Heq.out];rfl,((hb.setCell (Ye9 _) _).setCell (Ye9 _) _).alloc Zd _⟩):P:=h
theorem Y81(v:Value)(n:Nat)(I:Nat→Int×List UInt8)(w:World)(h:Y7a w v n I):
 Calls prog 103 #[v] w fun e w'=>Y7J I n w e w':=by
 obtain⟨hn,hv,hcell⟩:=h;unfold maxLen at hn;rcases hv with ⟨rfl,rfl⟩ | ⟨a,cap,rfl⟩
 ·have hbk:=YeC w (.cells #[.int .i64 0,.int .i64 0] 38 (0,0));have q0:(w.alloc (.cells #[.int .i64 0,.int .i64 0] 38 (0,0))).cell? ⟨w.heap.size,0,none⟩=some (.int .i64 0):=by rw[YeJ _ _ _ _ _ _ hbk];rfl
  have q1:(w.alloc (.cells #[.int .i64 0,.int .i64 0] 38 (0,0))).cell? ⟨w.heap.size,1,none⟩=some (.int .i64 0):=by rw[YeJ _ _ _ _ _ _ hbk];rfl
  have f0:(w.alloc (.cells #[.int .i64 0,.int .i64 0] 38 (0,0))).frozen? ⟨w.heap.size,0,none⟩=false:=Yfr _ _ _ _ _ hbk;have f1:(w.alloc (.cells #[.int .i64 0,.int .i64 0] 38 (0,0))).frozen? ⟨w.heap.size,1,none⟩=false:=Yfr _ _ _ _ _ hbk;have hsz:w.heap.size< (w.alloc (.cells #[.int .i64 0,.int .i64 0] 38 (0,0))).heap.size:=Z2t;have hb0:Below w.heap.size w (w.alloc (.cells #[.int .i64 0,.int .i64 0] 38 (0,0))):=(Yea _ _).alloc (Ye9 _) _
  clear hbk;have c1:=fun w=>hid (Y1O w)
  go_enter func103,ntmps103;go_wp2;refine Yf7 1 ?_;rw[Yf5];go_wp2_with (go_at_call 36;refine(c1 _).out.mono ?_;rintro e w1 ⟨rfl,hb1⟩;refine ZJ ?_;intro q0 q1 f0 f1);refine Yej (v:= .tuple #[.string (bs []),.agg #[.int .i64 0,.int .i64 (-1)]]) (by simp[results,results103,go_sem,q0,q1];rfl) rfl ?_;exact⟨rfl,((hb0.trans (hb1.mono (Nat.le_of_lt hsz))).setCell (Ye9 _) _).setCell (Ye9 _) _⟩
 have Hcell:=hid (hcell a n cap rfl);clear hcell;go_enter func103,ntmps103;go_wp2;go_loopw [4,11] (fun out i wr=>RAhsWrR I n w out i wr) (fun _ i _=>n - (intOf i).toNat)
 case atStart=>exact⟨0,[],by omega,by simp,rfl,rfl,rfl,rfl,(Yea _ _).alloc (Ye9 _) _,by simp,YeC _ _⟩
 case round =>
  obtain⟨k,o,hk,ho,rfl,rfl,heq,heq2,hb,hsz,hblk⟩:=hrel;have hB:=hb.size;refine Z10 ?_;intro q0 q1 f0 f1;by_cases hlt:k<n
  ·obtain⟨c0,c1,hr0,hr1,hd⟩:=Hcell.out k hlt;refine ZF ?_;intro g0 e1 g1;obtain⟨r,hr⟩: ∃r,n - k=r+1:=⟨n - k - 1,by omega⟩;have hr':n - (k+1)=r:=Z7;rw[hr,Y8y]at heq;rw[hr,ahsB]at heq2;clear c0 c1 e1;generalize I k=x at *;obtain⟨kd,d⟩:=x;unfold maxLen at hd;simp only at *;have hbk:=YeC wr (.cells #[.int .i64 kd,.string (bs d)] 169 (0,0));have hsA:wr.heap.size< (wr.alloc (.cells #[.int .i64 kd,.string (bs d)] 169 (0,0))).heap.size:=Z2t
   have hbA:=hb.alloc hB (.cells #[.int .i64 kd,.string (bs d)] 169 (0,0));have hb1:=(Yea wr.heap.size wr).alloc (Ye9 _) (.cells #[.int .i64 kd,.string (bs d)] 169 (0,0));have q0a:=(hb1.cell (p:=⟨w.heap.size,0,none⟩) hsz).trans q0;have q1a:=(hb1.cell (p:=⟨w.heap.size,1,none⟩) hsz).trans q1;have f0a:=(hb1.frozen (p:=⟨w.heap.size,0,none⟩) hsz).trans f0;have f1a:=(hb1.frozen (p:=⟨w.heap.size,1,none⟩) hsz).trans f1
   have b0: ∀ (x y:Value) (o:Obj),(((wr.setCell ⟨w.heap.size,0,none⟩ x).setCell ⟨w.heap.size,1,none⟩ y).alloc o).cell? ⟨w.heap.size,0,none⟩=some x:=fun x y o =>
    (((Yea _ _).alloc (Ye9 _) o).cell (p:=⟨w.heap.size,0,none⟩) Zd).trans (by simp[go_sem,q0,q1])
   have b1: ∀ (x y:Value) (o:Obj),(((wr.setCell ⟨w.heap.size,0,none⟩ x).setCell ⟨w.heap.size,1,none⟩ y).alloc o).cell? ⟨w.heap.size,1,none⟩=some y:=fun x y o =>
    (((Yea _ _).alloc (Ye9 _) o).cell (p:=⟨w.heap.size,1,none⟩) Zd).trans (by simp[go_sem,q0,q1])
   have Hbk:=hid hbk;clear hbk;have Hblk:=hid hblk;clear hblk;have c4:=fun w h=>hid (YZ kd 0 255 w h)
   have c5:=fun w h0 h1=>hid (YK kd 0 255 w h0 h1)
   by_cases hkd:kd<0∨255<kd
   ·rw[Yei hkd]at heq;have Heq:=hid heq;clear heq heq2;go_wp2_with (go_at_call 100;refine(c4 _ hkd).out.mono ?_;rintro e w2 ⟨rfl,rfl⟩);refine Yej (v:= .tuple #[.string (bs []),.agg #[.int .i64 2,.int .i64 (k:Nat)]]) (by simp[results,results103,go_sem,b0,b1];rfl) rfl ?_;exact Z4S
   ·rw[Yed hkd]at heq;by_cases hd2:2000<d.length
    ·rw[Yei (.inl Z7)]at heq;have Heq:=hid heq;clear heq heq2;go_wp2_with (go_at_call 100;refine(c5 _ Z7 Z7).out.mono ?_;rintro e w2 ⟨rfl,rfl⟩);refine Yej (v:= .tuple #[.string (bs []),.agg #[.int .i64 4,.int .i64 (k:Nat)]]) (by simp[results,results103,go_sem,b0,b1];rfl) rfl ?_;exact Z4S
    ·have c2:=fun w=>hid (Y2x d.length 2 w Z7)
     have hE:Y5U d.length 2=0:=Z4v;have hS:Y8J d.length 2=be d.length 2:=by unfold Y8J;rw[Yei hE];rfl
     rw[hE,hS]at c2;have hbw:=YdX kd Z7 Z7;generalize UInt8.ofNat kd.toNat=kb at *;have hBl:(be d.length 2).length=2:=Y2n _ _;generalize be d.length 2=B at *;have c3:=fun w=>hid (Ya4 (B ++ [kb] ++ d) w Zd)
     have hP:(Y7n (B ++ [kb] ++ d)).length=3+d.length+Y97 (3+d.length):=by unfold Y7n;rw[Yem,List.length_replicate,show(B ++ [kb] ++ d).length=3+d.length by simp;omega]
     have hBk:B ++ [kb] ++ d=B ++ kb :: d:=Z2t;rw[hBk]at c3 heq2 hP;clear hBk;generalize Y7n (B ++ kb :: d)=X at *;generalize hp:Y97 (3+d.length)=p at *;have hp4:p<4:=hp ▸Yaf _;have cv:=fun w=>YdT (P:=prog) 219 9 5 5 underlying219 underlying5 underlying9 w (kb.toNat:Int)
     rw[Y3o]at cv;have s1:IntKind.u64.wrap (d.length:Int)=(d.length:Int):=Z2k;have Heq:=hid heq;have Heq2:=hid heq2;clear heq heq2;have hXo:(o ++ X).length=o.length+(3+d.length+p):=by rw[Yem,hP]
     by_cases hl:1020<o.length+3+d.length+p
     ·go_wp2_with first
       | (go_at_call 100;refine(c5 _ Z7 Z7).out.mono ?_;rintro e w2 ⟨rfl,rfl⟩)
       | (go_at_call 104;refine(c2 _).out.mono ?_;rintro e w2 ⟨rfl,hb2⟩;refine Zi ?_;intro hc0 hc1 hbB hc1a hszA hsz2 q0 q1 f0 f1 Hblk2 q0y q1y f0y f1y b0y b1y)
       | (go_at_call 149;refine(c3 _).out.mono ?_;rintro e w3 ⟨rfl,rfl⟩)
      refine Yej (v:= .tuple #[.string (bs []),.agg #[.int .i64 4,.int .i64 (k:Nat)]]) (by simp[results,results103,go_sem,b0y,b1y];rfl) rfl ?_;refine⟨by rw[Heq.out,Yei (show 1020<d.length∨1020<o.length+3+d.length+p from .inr Z7)];rfl,((hbB.setCell (Ye9 _) _).setCell (Ye9 _) _).alloc (by simp;exact hbB.size) _⟩
     ·go_wp2_with first
       | (go_at_call 100;refine(c5 _ Z7 Z7).out.mono ?_;rintro e w2 ⟨rfl,rfl⟩)
       | (go_at_call 104;refine(c2 _).out.mono ?_;rintro e w2 ⟨rfl,hb2⟩;refine Zi ?_;intro hc0 hc1 hbB hc1a hszA hsz2 q0 q1 f0 f1 Hblk2 q0y q1y f0y f1y b0y b1y)
       | (go_at_call 149;refine(c3 _).out.mono ?_;rintro e w3 ⟨rfl,rfl⟩)
      go_roundw
      case rel=>exact⟨k+1,o ++ X,by omega,by omega,by go_num,rfl,by rw[Heq.out,Yed Z7,hXo,hr'],by rw[Heq2.out,hr'],hbB.alloc hbB.size _,by simp;omega,(YfE w2 _ _ hsz2).trans Hblk2.out⟩
      case measure=>exact Zw
  ·obtain rfl:k=n:=Z7;have Heq:=hid heq;have Heq2:=hid heq2;clear heq heq2;go_wp2_with (go_at_call 36;refine(Y1O _).mono ?_;rintro e w1 ⟨rfl,hb1⟩;refine ZJ ?_;intro q0 q1 f0 f1);refine Yej (v:= .tuple #[.string (bs o),.agg #[.int .i64 0,.int .i64 (-1)]]) (by simp[results,results103,go_sem,q0,q1]) rfl ?_;refine⟨?_,((hb.trans (hb1.mono hB)).setCell (Ye9 _) _).setCell (Ye9 _) _⟩
   rw[Heq.out,Heq2.out,Nat.sub_self];rfl
end
section
open Go.Proofs.Tryz
open Go Go.RowKit
def Ybn(w:World)(e:Ending)(w':World):Prop:=(∃b:Bool,e= .returned (.bool b))∧Below w.heap.size w w'
def RWide(n:Nat)(w:World)(sum i:Value)(wr:World):Prop:=
 ∃ (k:Nat) (m:Int),k≤n∧i= .int .i64 (k:Nat)∧sum= .int .i64 m∧Below w.heap.size w wr
theorem wide_any(v:Value)(n:Nat)(I:Nat→Int×List UInt8)(w:World)(h:Y7a w v n I):
 Calls prog 78 #[v] w fun e w'=>Ybn w e w':=by
 obtain⟨hn,hv,hcell⟩:=h;unfold maxLen at hn;rcases hv with ⟨rfl,rfl⟩ | ⟨a,cap,rfl⟩
 ·go_enter func78,ntmps78;go_wp2;refine Yf7 1 ?_;rw[Yf5];go_wp2;go_ret;exact⟨⟨_,rfl⟩,Yea _ _⟩
 have Hcell:=hid (hcell a n cap rfl);clear hcell;go_enter func78,ntmps78;go_wp2;go_loopw [3,10] (fun sum i wr=>RWide n w sum i wr) (fun _ i _=>n - (intOf i).toNat)
 case atStart=>exact⟨0,_,by omega,rfl,rfl,Yea _ _⟩
 case round =>
  obtain⟨k,m,hk,rfl,rfl,hb⟩:=hrel;have hB:=hb.size;by_cases hlt:k<n
  ·obtain⟨c0,c1,hr0,hr1,hd⟩:=Hcell.out k hlt;refine ZF ?_;intro g0 e1 g1;clear c0 c1 e1;generalize I k=x at *;obtain⟨kd,d⟩:=x;simp only at *;go_wp2;go_roundw
   case rel=>exact⟨k+1,_,by omega,by go_num,rfl,hb.alloc hB _⟩
   case measure=>exact Zw
  ·go_wp2;go_ret;exact⟨⟨_,rfl⟩,hb⟩
end
section
open Go.RowKit
def Y3U(xs:List (Nat×List UInt8)):List Value:=xs.flatMap fun x=> [.int .i64 (x.1:Nat),.string (bs x.2)]
end
end Go.Proofs.YtfadikchijkcfaaGreatDoor
