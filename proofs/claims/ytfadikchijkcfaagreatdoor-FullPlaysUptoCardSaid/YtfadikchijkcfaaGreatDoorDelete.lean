/- slices.DeleteFunc of pairs of a key. -/
import Derived.Test.YtfadikchijkcfaaGreatDoorParsePure
import Derived.Test.YtfadikchijkcfaaGreatDoorThick
import Derived.Test.YtfadikchijkcfaaGreatDoorTCrowd
import Derived.Lib.SliceRun
import Derived.Deep.DeepCutAuto
set_option linter.unusedVariables false
set_option linter.unusedSectionVars false
set_option linter.unusedSimpArgs false
set_option maxRecDepth 100000
set_option maxHeartbeats 8000000
namespace Go.Proofs.YtfadikchijkcfaaGreatDoor
open Go.Proofs.Tryz
open Go Go.RowKit
theorem Ybh(u:List UInt8×List UInt8)(n:List UInt8)(p:Nat)(w:World)(hp:w.cell? ⟨p,0,none⟩=some (.string (bs n))):
 Calls prog 48 #[.agg #[.string (bs u.1),.string (bs u.2)],.pointer (some ⟨p,0,none⟩)] w fun e w'=>e= .returned (.bool (u.1 == n))∧Below w.heap.size w w':=by
 have hp2:(w.alloc (.cells #[.string (bs u.1),.string (bs u.2)] 78)).cell? ⟨p,0,none⟩=some (.string (bs n)):=(((Yea w.heap.size w).alloc (Ye9 _) _).cell (p:=⟨p,0,none⟩) (Yeb hp)).trans hp;go_enter func48,ntmps48;go_wp2;go_ret;exact Z2v
theorem Yb7(v:Value)(l:PL)(n:List UInt8)(p:Nat)(w:World)(h:PSl w v l)(hn:l.length≤9223372036854775807)(hp:w.cell? ⟨p,0,none⟩=some (.string (bs n))):
 Calls prog 97 #[v,.func (.func 48) #[] #[.pointer (some ⟨p,0,none⟩)]] w fun e w'=>e= .returned (.int .i64 (idxU l n))∧Below w.heap.size w w':=by
 rcases h.open_ with ⟨rfl,a,c,rfl⟩ | ⟨h0,b,o,c,rfl,hbl,hcell⟩
 ·clear h;go_enter func97,ntmps97;exact Z3g
 clear h;have Hcell:=hid hcell;clear hcell;have HP:=hid hp;clear hp;go_enter func97,ntmps97;go_wp2;go_loopw [8] (fun i wr=>RUsr l n w i wr) (fun i _=>l.length - (intOf i).toNat)
 case atStart=>exact⟨0,by omega,rfl,hid (Y8a l n),Yea _ _⟩
 case round =>
  obtain⟨k,hk,rfl,HN,hb⟩:=hrel;have hB:=hb.size;by_cases hlt:k<l.length
  ·refine Z1x ?_;intro c0 c1 g0 g1;have hpw:wr.cell? ⟨p,0,none⟩=some (.string (bs n)):=(hb.cell (p:=⟨p,0,none⟩) (Yeb HP.out)).trans HP.out;have cc:=hid (Ybh (l.getD k ([],[])) n p wr hpw);clear hpw c0 c1;by_cases hkey:(l.getD k ([],[])).1=n
   ·have HP2:=hid (show idxU l n=(k:Nat) by unfold idxU;rw[posU_at l n k hlt hkey HN.out,Yei hlt]);have hbe:((l.getD k ([],[])).1 == n)=true:=Yfb.2 hkey;rw[hbe]at cc;clear hbe hkey;generalize l.getD k ([],[])=x at *;go_wp2_with fail;refine cc.out.mono ?_;rintro e w1 ⟨rfl,hb1⟩;go_wp2;go_ret;exact⟨by rw[HP2.out];rfl,hb.trans (hb1.mono hB)⟩
   ·have hbe:((l.getD k ([],[])).1 == n)=false:=by simpa using hkey
    have HS:=hid (HN.out.step hkey);rw[hbe]at cc;clear hbe hkey;generalize l.getD k ([],[])=x at *;go_wp2_with fail;refine cc.out.mono ?_;rintro e w1 ⟨rfl,hb1⟩;go_wp2;refine⟨⟨k+1,by omega,by go_num,hid HS.out,hb.trans (hb1.mono hB)⟩,by simp[intOf];omega⟩
  ·obtain rfl:k=l.length:=Z7;have HP2:=hid (show idxU l n= -1 by unfold idxU;rw[Yd5 l n HN.out,Yed Z7]);go_wp2;go_ret;exact⟨by rw[HP2.out];rfl,hb⟩
theorem Y8O(l:PL)(n:List UInt8)(h: ¬Y7l l n<l.length):Yi l n=l:=by
 unfold Yi;rw[List.filter_eq_self];intro x hx;have hh:Y7l l n=l.length:=by unfold Y7l at h ⊢;have:=List.findIdx_le_length (p:=fun u:List UInt8×List UInt8=>u.1 == n) (xs:=l);exact Z7
 unfold Y7l at hh;rw[List.findIdx_eq_length]at hh;simp[hh x hx]
theorem Y3i(l:PL)(n:List UInt8)(j:Nat)(hj:j<l.length):Yi (l.take (j+1)) n=Yi (l.take j) n ++ (if((l.getD j ([],[])).1 == n)=true then []else [l.getD j ([],[])]):=by
 unfold Yi;rw[Yeq hj,List.filter_append,List.getD,Yec hj];simp only[Yf2,List.filter_cons,List.filter_nil]
 cases l[j].1 == n<;>simp
theorem Y7K(l:PL)(n:List UInt8)(h:Y7l l n<l.length):Yi (l.take (Y7l l n+1)) n=l.take (Y7l l n):=by
 have h1:(l.getD (Y7l l n) ([],[])).1 == n:=by
  have:=List.findIdx_getElem (p:=fun u:List UInt8×List UInt8=>u.1 == n) (xs:=l) (w:=h);rw[List.getD,Yec h];exact this
 rw[Y3i l n _ h,h1,Yei rfl,Yfd];unfold Yi;rw[List.filter_eq_self];intro x hx;obtain⟨i,hi,rfl⟩:=List.getElem_of_mem hx;rw[Ygq]at hi;rw[List.getElem_take];have:=List.not_of_lt_findIdx (p:=fun u:List UInt8×List UInt8=>u.1 == n) (xs:=l) (i:=i) (show i<l.findIdx _ by unfold Y7l at hi;exact Z7);simp only[this,Bool.not_false]
theorem zeroPr(w:World):(zeroValue 78).run prog w= .ok (.agg #[.string ⟨#[]⟩,.string ⟨#[]⟩]) w:=by kernel_rfl
theorem YaD(w:World)(ty:TypeId)(b o n c:Nat)(hn:0<n)(hc: ∀j,j<n * 2→(w.cell? ⟨b,o+j,none⟩).isSome=true)(hf: ∀j,j<n * 2→w.frozen? ⟨b,o+j,none⟩=false):
 (Builtin.clear_ #[27] ty #[.slice (some ⟨b,o,none⟩) n c]).run prog w= .ok (.tuple #[]) (w.setCells b o (List.replicate (n * 2) (.string ⟨#[]⟩))):=by
 have hzc:(Builtin.zeroCells (Value.agg #[.string ⟨#[]⟩,.string ⟨#[]⟩]).cells n).toList=List.replicate (n * 2) (.string ⟨#[]⟩):=by
  simp only[Value.cells,Builtin.zeroCells];apply List.ext_getElem
  ·exact Z2t
  ·intro i h1 h2;simp only[Array.getElem_toList,Array.getElem_map,Array.getElem_range,List.getElem_replicate];have:i % 2=0∨i % 2=1:=Z7;rcases this with h | h<;>simp[h]
 have hst:=run_storeCells_cells (P:=prog) b o (List.replicate (n * 2) (.string ⟨#[]⟩)) 0 w (by simpa using hc) (by simpa using hf) (by intro v hv';rw[List.eq_of_mem_replicate hv'];rfl);simp only[Yfz]at hst;obtain⟨m,rfl⟩: ∃m,n=m+1:=⟨n - 1,by omega⟩;simp[Builtin.clear_,run_underlying underlying27,zeroPr,hzc,hst]
def Y4c(w:World)(g cap:Nat)(l r:PL)(j:Nat):Prop:=
 ∃cur:Array Value,Blk w g 78 cur∧cur.size=cap * 2∧(∀ (q:Nat) (u:Value),(Y0 r)[q]?=some u→cur[q]?=some u)∧(∀ (q:Nat) (u:Value),j * 2≤q→(Y0 l)[q]?=some u→cur[q]?=some u)
theorem Y4c.below{w w':World}{g cap:Nat}{l r:PL}{j:Nat}(h:Y4c w g cap l r j)(hb:Below w.heap.size w w'):Y4c w' g cap l r j:=by
 obtain⟨cur,h1,h2⟩:=h;exact⟨cur,h1.below hb,h2⟩
theorem Y4c.next{w:World}{g cap:Nat}{l r:PL}{j:Nat}(h:Y4c w g cap l r j):Y4c w g cap l r (j+1):=by
 obtain⟨cur,h1,h2,h3,h4⟩:=h;exact⟨cur,h1,h2,h3,fun q u hq=>h4 q u Z7⟩
theorem Y4c.cells{w:World}{g cap:Nat}{l r:PL}{j:Nat}(h:Y4c w g cap l r j)(hj:j<l.length):w.cell? ⟨g,j * 2,none⟩=some (.string (bs (l.getD j ([],[])).1))∧w.cell? ⟨g,j * 2+1,none⟩=some (.string (bs (l.getD j ([],[])).2)):=by
 obtain⟨cur,h1,h2,h3,h4⟩:=h;obtain⟨a,b⟩:=Y48 l j hj;rw[Nat.mul_comm 2 j]at a b;exact⟨(h1.cell _).trans (h4 _ _ Z7 a),(h1.cell _).trans (h4 _ _ Z7 b)⟩
theorem Y4c.store{w:World}{g cap:Nat}{l r:PL}{j:Nat}(h:Y4c w g cap l r j)(x:List UInt8×List UInt8)(hj:r.length<j)(hc:r.length<cap):
 Y4c ((w.setCell ⟨g,r.length * 2,none⟩ (.string (bs x.1))).setCell ⟨g,r.length * 2+1,none⟩ (.string (bs x.2))) g cap l (r ++ [x]) j:=by
 obtain⟨cur,h1,h2,h3,h4⟩:=h;refine⟨_,(h1.set _ _).set _ _,by simp[h2],fun q u hq=> ?_,fun q u hq hu=> ?_⟩
 ·rw[YE]at hq;have hl:=Yr r;rw[Yet,Yet];rcases YeU q (r.length * 2)with hq2 | hq2
  ·rw[Yed Z7,Yed Z7];rw[Yfl Z7]at hq;exact h3 q u hq
  ·rw[Yfv Z7,hl]at hq
   have hq3:q=r.length * 2∨q=r.length * 2+1:=by
    have:=(Yek.1 hq).1;rw[Yr]at this;simp at this;exact Z7
   rcases hq3 with rfl | rfl
   ·rw[Yed Z7,Yei rfl,Yei Z7];simpa[Y0]using hq
   ·rw[Yei rfl,Yei Zd];simpa[Y0]using hq
 ·rw[Yet,Yet,Yed Z7,Yed Z7];exact h4 q u hq hu
theorem Y6o{w:World}{base g cap:Nat}{l:PL}(h:w.ownsRow base 78 2 (.slice (some ⟨g,0,none⟩) l.length cap) l.length (Y0 l))(j:Nat)(hj:j≤l.length):
 Y4c w g cap l (l.take j) (j+1)∧base≤g∧l.length≤cap∧cap≤maxLen:=by
 rcases h.2 with ⟨h0,_⟩ | ⟨g',cap',cur,hv,hbg,hg,hnc,hcm,hcs,htake⟩
 ·cases h0
 ·cases hv
  refine⟨⟨cur,hg,hcs,fun q u hq=> ?_,fun q u _ hq=> ?_⟩,hbg,hnc,hcm⟩
  all_goals
   have hql:(Y0 l)[q]?=some u:=by
    first
     | exact hq
     | (have e:Y0 l=Y0 (l.take j) ++ Y0 (l.drop j):=by rw[←YE,YfA]
        rw[e,Yfl (Yek.1 hq).1]
        exact hq)
   rw[←htake,Yfg]at hql
   split at hql
   ·simpa using hql
   ·cases hql
theorem Y4c.some{w:World}{g cap:Nat}{l r:PL}{j:Nat}(h:Y4c w g cap l r j)(k:Nat)(hk:k<cap):(∃u,w.cell? ⟨g,k * 2,none⟩=some u)∧(∃u,w.cell? ⟨g,k * 2+1,none⟩=some u)∧w.frozen? ⟨g,k * 2,none⟩=false∧w.frozen? ⟨g,k * 2+1,none⟩=false:=by
 obtain⟨cur,h1,h2,h3,h4⟩:=h;refine⟨⟨cur[k * 2]' Z7,?_⟩,⟨cur[k * 2+1]' Z7,?_⟩,h1.free _,h1.free _⟩
 ·rw[h1.cell,Yep Z7]
 ·rw[h1.cell,Yep Z7]
theorem Y4c.isSome{w:World}{g cap:Nat}{l r:PL}{j:Nat}(h:Y4c w g cap l r j)(q:Nat)(hq:q<cap * 2):(w.cell? ⟨g,q,none⟩).isSome=true∧w.frozen? ⟨g,q,none⟩=false:=by
 obtain⟨cur,h1,h2,h3,h4⟩:=h;exact⟨by rw[h1.cell,Yep Z7];rfl,h1.free _⟩
theorem Yag{w:World}{base g cap:Nat}{T:TypeId}{r:PL}{cur:Array Value}(h:Blk w g 78 cur)(hs:cur.size=cap * 2)(hc: ∀ (q:Nat) (u:Value),(Y0 r)[q]?=some u→cur[q]?=some u)(hb:base≤g)(hr:r.length≤cap)(hm:cap≤maxLen):
 w.ownsRow base 78 2 (.slice (some ⟨g,0,none⟩) r.length cap) r.length (Y0 r):=by
 refine⟨by rw[Yr],.inr ⟨g,cap,cur,rfl,hb,h,hr,hm,hs,?_⟩⟩;apply List.ext_getElem?;intro q;rw[Yfg]
 split
 ·rename_i hq
  have hq':q< (Y0 r).length:=by rw[Yr];exact hq
  have:=hc q _ (Yec hq');rw[Yec hq'];exact Z2Y
 ·rename_i hq
  rw[Yfq Z4s]
theorem Y5H{g:Nat}{T:TypeId}: ∀ (vs:List Value) (o:Nat) (w:World) (cur:Array Value),Blk w g T cur→ ∃cur',Blk (w.setCells g o vs) g T cur'∧cur'.size=cur.size∧ ∀q,q<o→cur'[q]?=cur[q]?
 | [],o,w,cur,h=>⟨cur,h,rfl,fun _ _=>rfl⟩
 | v :: vs,o,w,cur,h=>by
  obtain⟨cur',h1,h2,h3⟩:=Y5H vs (o+1) _ _ (h.set o v)
  refine⟨cur',h1,by simpa using h2,fun q hq=> ?_⟩
  rw[h3 q (by omega),Yet,Yed (by omega)]
theorem Y50{a:World}{g:Nat}: ∀ (vs:List Value) (o:Nat) (w:World),a.grownBy w (some g)→a.grownBy (w.setCells g o vs) (some g)
 | [],o,w,h=>h
 | v :: vs,o,w,h=>Y50 vs (o+1) _ (Y1M h o v)
def RDel(g cap:Nat)(l:PL)(n:List UInt8)(w:World)(i j:Value)(wr:World):Prop:=
 ∃jj:Nat,0<jj∧jj≤l.length∧j= .int .i64 (jj:Nat)∧i= .int .i64 ((Yi (l.take jj) n).length:Nat)∧(Yi (l.take jj) n).length<jj∧Y4c wr g cap l (Yi (l.take jj) n) jj∧w.grownBy wr (some g)
theorem Z4O{P:Prop}(h:P:=by
 rw[HWT.out]
 exact Z2t):P:=h
theorem Yck(g cap base p:Nat)(l:PL)(n:List UInt8)(w:World)(hrow:w.ownsRow base 78 2 (.slice (some ⟨g,0,none⟩) l.length cap) l.length (Y0 l))(hn:l.length≤1048576)(hp:w.cell? ⟨p,0,none⟩=some (.string (bs n)))(hpg:p≠g):
 Calls prog 47 #[.slice (some ⟨g,0,none⟩) l.length cap,.func (.func 48) #[] #[.pointer (some ⟨p,0,none⟩)]] w fun e w' =>
  e= .returned (.slice (some ⟨g,0,none⟩) (Yi l n).length cap)∧w'.ownsRow base 78 2 (.slice (some ⟨g,0,none⟩) (Yi l n).length cap) (Yi l n).length (Y0 (Yi l n))∧w.grownBy w' (some g):=by
 have ci:=hid (Yb7 _ l n p w (Yx hrow) Z7 hp);obtain⟨_,hbg,hlc,hcm⟩:=Y6o hrow 0 Z7;unfold idxU at ci;by_cases hpos:Y7l l n<l.length
 ·rw[Yei hpos]at ci;have hr0:=(Y6o hrow (Y7l l n) Z7).1;have HW:=hid (Y7K l n hpos);rw[←HW.out]at hr0;have HR0:=hid hr0;have hwl:(Yi (l.take (Y7l l n+1)) n).length=Y7l l n:=by rw[HW.out,Ygq];exact Z7
  have HWL:=hid hwl;generalize Y7l l n=k0 at *;unfold maxLen at hcm;clear hrow hr0 hwl;go_enter func47,ntmps47;go_wp2_with fail;refine ci.out.mono ?_;rintro e w1 ⟨rfl,hb1⟩;have R1:=HR0.out.below hb1;have O1:=Y1h (Y1p w (some g)) hb1;have hne:((k0:Int) == -1)=false:=Z1r;go_wp2;go_loopw [5,6] (fun i j wr=>RDel g cap l n w i j wr) (fun _ j _=>l.length - (intOf j).toNat)
  case atStart=>exact⟨k0+1,by omega,by omega,by go_num,by rw[HWL.out],by rw[HWL.out];omega,R1,O1⟩
  case round =>
   obtain⟨jj,h0,hj,rfl,rfl,hi,R,O⟩:=hrel;clear R1 O1 ci HR0 HW HWL;by_cases hlt:jj<l.length
   ·obtain⟨g0,g1⟩:=R.cells hlt;have HWT:=hid (Y3i l n jj hlt);have hpw:wr.cell? ⟨p,0,none⟩=some (.string (bs n)):=(Yfu (a:=⟨p,0,none⟩) (O.block p (Yeb hp) (by intro e;cases e;exact hpg rfl))).trans hp;have HRR:=hid R;have HOO:=hid O;clear R O;generalize hrr:Yi (l.take jj) n=r at *;generalize hxx:l.getD jj ([],[])=x at *;obtain⟨x1,x2⟩:=x;simp only at *;clear hrr hxx
    refine ZG ?_;intro W6 hW6 hA6;refine Zp ?_;intro p0 p1;refine Z3r ?_;intro hlt6;have R6:=hid (HRR.out.below hA6);have O6:=hid (Y1h HOO.out hA6);have hpw6:=(hA6.cell (p:=⟨p,0,none⟩) (Yeb hpw)).trans hpw;have cc:=hid (Ybh (x1,x2) n p W6 hpw6);simp only at cc;have hgl:g<wr.heap.size:=by obtain⟨cur,h1,_⟩:=HRR.out;exact h1.lt
    cases hq:(x1 == n)with
    | true =>
     rw[hq]at cc HWT;have HST:=hid (show Yi (l.take (jj+1)) n=r from Z4O);clear hq HWT;go_wp2_with fail;refine cc.out.mono ?_;rintro e w7 ⟨rfl,hb7⟩;have R7:=(R6.out.below hb7).next;have O7:=Y1h O6.out hb7;go_wp2;exact⟨⟨jj+1,by omega,by omega,by go_num,by rw[HST.out],by rw[HST.out];omega,by rw[HST.out];exact R7,O7⟩,by simp[intOf];omega⟩
    | false =>
     rw[hq]at cc HWT;have HST:=hid (show Yi (l.take (jj+1)) n=r ++ [(x1,x2)] from Z4O);clear hq HWT;have hrl:r.length<l.length:=Z7;go_wp2_with fail;refine cc.out.mono ?_;rintro e w7 ⟨rfl,hb7⟩;have p0:=(hb7.cell (p:=⟨wr.heap.size,0,none⟩) hlt6).trans p0;have p1:=(hb7.cell (p:=⟨wr.heap.size,1,none⟩) hlt6).trans p1;have R7:=hid (R6.out.below hb7);have O7:=hid (Y1h O6.out hb7);obtain⟨⟨u0,k0⟩,⟨u1,k1⟩,f0,f1⟩:=R7.out.some r.length Z7
     have R8:=hid ((R7.out.store (x1,x2) hi Z7).next);have O8:=hid (Y1M (Y1M O7.out (r.length * 2) (.string (bs x1))) (r.length * 2+1) (.string (bs x2)));have hneg:wr.heap.size≠g:=Z7;go_wp2;exact⟨⟨jj+1,by omega,by omega,by go_num,by rw[HST.out];simp,by rw[HST.out,Yem];simp only[YeH,YeV];omega,by rw[HST.out];exact R8.out,O8.out⟩,by simp[intOf];omega⟩
   ·obtain rfl:jj=l.length:=Z7;rw[Yex]at R hi ⊢;have HO:=hid O;have HR:=hid R;generalize hrr:Yi l n=r at *;have hsl:=Y5m (P:=prog) 27 78 underlying27 2 (by intro w;kernel_rfl) g 0 l.length cap r.length Z7 Z7 wr;rw[YfP]at hsl;have hcl:=fun ty=>YaD wr ty g (r.length * 2) (l.length - r.length) (cap - r.length) Z7 (fun q hq=>(HR.out.isSome _ Z7).1) (fun q hq=>(HR.out.isSome _ Z7).2)
    have HOW:=hid (show(wr.setCells g (r.length * 2) (List.replicate ((l.length - r.length) * 2) (.string ⟨#[]⟩))).ownsRow base 78 2 (.slice (some ⟨g,0,none⟩) r.length cap) r.length (Y0 r) by
     obtain⟨cur,h1,h2,h3,h4⟩:=HR.out;obtain⟨cur',k1,k2,k3⟩:=Y5H (List.replicate ((l.length - r.length) * 2) (.string ⟨#[]⟩)) (r.length * 2) wr cur h1;refine Yag (T:=78) k1 (by rw[k2,h2]) (fun q u hq=> ?_) hbg (by omega) (by unfold maxLen;omega);rw[k3 q (by have:=(Yek.1 hq).1;rw[Yr]at this;exact this)]
     exact h3 q u hq)
    have HON:=hid (Y50 (List.replicate ((l.length - r.length) * 2) (.string ⟨#[]⟩)) (r.length * 2) wr HO.out);have hcc:(r.length:Int)≤(cap:Int):=Z7;have hlt2: ¬((l.length:Int) < (l.length:Int)):=Z7;clear R O hlt hj;go_wp2;go_ret;exact⟨rfl,HOW.out,HON.out⟩
 ·rw[Yed hpos]at ci;have HW:=hid (Y8O l n hpos);have HR:=hid hrow;clear hrow hpos;go_enter func47,ntmps47;go_wp2_with fail;refine ci.out.mono ?_;rintro e w1 ⟨rfl,hb1⟩;go_wp2;go_ret;rw[HW.out];exact⟨rfl,Y2 HR.out hb1,Y1h (Y1p w (some g)) hb1⟩
theorem Ybf(base p:Nat)(v:Value)(l:PL)(n:List UInt8)(w:World)(hrow:w.ownsRow base 78 2 v l.length (Y0 l))(hn:l.length≤1048576)(hp:w.cell? ⟨p,0,none⟩=some (.string (bs n)))(hpg:v.ownBlock≠some p):
 Calls prog 47 #[v,.func (.func 48) #[] #[.pointer (some ⟨p,0,none⟩)]] w fun e w' =>
  ∃v',e= .returned v'∧w'.ownsRow base 78 2 v' (Yi l n).length (Y0 (Yi l n))∧w.grownBy w' v.ownBlock∧v'.ownBlock=v.ownBlock:=by
 have hrow':=hrow;rcases hrow.2 with ⟨rfl,h0⟩ | ⟨g,cap,cur,rfl,_⟩
 ·have hl:l= []:=YeL.1 h0;subst hl;have ci:=hid (Yb7 (.slice none 0 0) [] n p w (Yx hrow') Z2t hp);have hix:idxU [] n= -1:=rfl;rw[hix]at ci;clear hrow hrow';go_enter func47,ntmps47;go_wp2_with fail;refine ci.out.mono ?_;rintro e w1 ⟨rfl,hb1⟩;go_wp2;go_ret;exact⟨_,rfl,by simpa[Yi,Y0]using YeD _ _ _ _,Y1h (Y1p w _) hb1,rfl⟩
 ·have hpg2:p≠g:=fun e=>hpg (by rw[e];rfl)
  refine(Yck g cap base p l n w hrow' hn hp hpg2).mono ?_;rintro e w' ⟨rfl,h1,h2⟩;exact⟨_,rfl,h1,h2,rfl⟩
end Go.Proofs.YtfadikchijkcfaaGreatDoor
