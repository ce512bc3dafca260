/- Who is there: target.List, by the program and by the document. -/
import Derived.Test.YtfadikchijkcfaaGreatDoorParsePure
import Derived.Test.YtfadikchijkcfaaGreatDoorTCrowd
import Derived.Test.YtfadikchijkcfaaGreatDoorPUint
import Derived.Test.YtfadikchijkcfaaGreatDoorGather
import Derived.Test.YtfadikchijkcfaaGreatDoorHeadFields
import Derived.Lib.ItoaLen
import Derived.Deep.RegionHeld3
import Derived.Deep.DeepCutAuto
set_option linter.unusedVariables false
set_option linter.unusedSectionVars false
set_option linter.unusedSimpArgs false
set_option maxRecDepth 100000
set_option maxHeartbeats 16000000
namespace Go.Proofs.YtfadikchijkcfaaGreatDoor
open Go.Proofs.Tryz
open Go Go.RowKit
abbrev Y1f:List UInt8:= [84,97,114,103,101,116,78,97,109,101]
abbrev Y6X:List UInt8:= [84,97,114,103,101,116,65,100,100,114,101,115,115]
def YT(g:List UInt8×Int):List UInt8×List UInt8:=(Y6X,g.1 ++ [44] ++ Lib.itoa g.2)
def Yy(gs:GL)(name:List UInt8)(all:Bool)(ts:List (List UInt8)):PL:=ts.flatMap fun t=>if(all || t == name)=true then(Y1f,t) :: gs.map YT else []
theorem Y3a(gs:GL)(name:List UInt8)(all:Bool)(ts:List (List UInt8))(k:Nat)(h:k<ts.length):Yy gs name all (ts.take (k+1))=Yy gs name all (ts.take k) ++ (if(all || ts.getD k [] == name)=true then(Y1f,ts.getD k []) :: gs.map YT else []):=by
 rw[Yeq h,List.getD,Yec h];unfold Yy;rw[List.flatMap_append];simp only[YfK,List.flatMap_nil,Yfd,Yf2]
theorem Y2U(gs:GL)(name:List UInt8)(all:Bool)(ts:List (List UInt8)):(Yy gs name all ts).length≤ts.length * (1+gs.length):=by
 induction ts with
 | nil=>simp[Yy]
 | cons t ts ih =>
  have e:Yy gs name all (t :: ts)=(if(all || t == name)=true then(Y1f,t) :: gs.map YT else []) ++ Yy gs name all ts:=by simp[Yy]
  rw[e,Yem,YeH,Nat.add_mul]
  have:(if(all || t == name)=true then(Y1f,t) :: gs.map YT else []).length≤1+gs.length:=by
   split
   ·simp;omega
   ·simp
  omega
theorem Y52(gs:GL)(j:Nat)(h:j<gs.length):(gs.take (j+1)).map YT=(gs.take j).map YT ++ [YT (gs.getD j ([],0))]:=by
 rw[Yeq h,List.getD,Yec h,Yfi];rfl
theorem Y6E(gs:GL)(name:List UInt8)(ts:List (List UInt8))(h:ts.contains name=false):Yy gs name false ts= []:=by
 induction ts with
 | nil=>rfl
 | cons t ts ih =>
  rw[YeM,Bool.or_eq_false_iff]at h
  have h1:(t == name)=false:=by
   rw[Yen]at h ⊢
   exact fun e=>h.1 e.symm
  have e:Yy gs name false (t :: ts)=(if(false || t == name)=true then(Y1f,t) :: gs.map YT else []) ++ Yy gs name false ts:=by simp[Yy]
  rw[e,ih h.2,h1];rfl
def Y5V(name:List UInt8)(all:Bool)(ts:List (List UInt8)):Bool:=ts.any fun t=>all || t == name
theorem Y5w(name:List UInt8)(all:Bool)(ts:List (List UInt8))(k:Nat)(h:k<ts.length):Y5V name all (ts.take (k+1))=(Y5V name all (ts.take k) || (all || ts.getD k [] == name)):=by
 rw[Yeq h,List.getD,Yec h];unfold Y5V;rw[List.any_append];simp only[List.any_cons,List.any_nil,YfT,Yf2]
theorem Y6I(name:List UInt8)(ts:List (List UInt8)):Y5V name false ts=ts.contains name:=by
 induction ts with
 | nil=>rfl
 | cons t ts ih =>
  unfold Y5V at ih ⊢;rw[List.any_cons,ih,YeM,Yg6]
  congr 1
  rw[Yg3,Yfb,Yfb];exact eq_comm
theorem Y1z{w0 w1 w2:World}{base:Nat}{e:TypeId}{size n:Nat}{v:Value}{xs:List Value}(hown:w0.ownsRow base e size v n xs)(hg:w1.grownBy w2 v.ownBlock)(p:Addr)(hp:w0.heap.size≤p.block)(hlt:p.block<w1.heap.size):w2.cell? p=w1.cell? p:=
 Yfu (hg.block p.block hlt (by intro e;have:=(hown.lt p.block e.symm).2;omega))
def RL1(gs:GL)(name:List UInt8)(all:Bool)(ts:List (List UInt8))(B:Nat)(W:World)(o i:Value)(wr:World):Prop:=
 ∃k:Nat,k≤ts.length∧i= .int .i64 (k:Nat)∧wr.ownsRow B 78 2 o (Yy gs name all (ts.take k)).length (Y0 (Yy gs name all (ts.take k)))∧Below B W wr
def RL1R(gs:GL)(name:List UInt8)(all:Bool)(ts:List (List UInt8))(B:Nat)(W:World)(o b i:Value)(wr:World):Prop:=
 ∃k:Nat,k≤ts.length∧i= .int .i64 (k:Nat)∧b= .bool (Y5V name all (ts.take k))∧wr.ownsRow B 78 2 o (Yy gs name all (ts.take k)).length (Y0 (Yy gs name all (ts.take k)))∧Below B W wr
def RL2(gs:GL)(xs:PL)(B:Nat)(W:World)(o i:Value)(wr:World):Prop:=
 ∃j:Nat,j≤gs.length∧i= .int .i64 (j:Nat)∧wr.ownsRow B 78 2 o (xs ++ (gs.take j).map YT).length (Y0 (xs ++ (gs.take j).map YT))∧Below B W wr
theorem Z1D{P Q:Prop}(k:Q)(h:Q→P:=by
 have hb3:Below W1.heap.size W1 w3:=(hb.alloc Z7 _).grown hgrow Zd (fun g hg=>(HO.out.lt g hg).1)
 have t1:=(hb3.cell (p:=⟨w.heap.size,1,none⟩) hpw).trans T1.out
 refine fun z_=>?_
 revert t1;revert hb3
 exact z_):P:=h k
theorem Z2j{P:Prop}(h:P:=by
 rw[Yem,List.length_map,Ygq]
 exact Z7):P:=h
theorem Z2l{P:Prop}(h:P:=by
 exact⟨0,by omega,rfl,by simpa using HO4.out,Yea _ _⟩):P:=h
theorem Z2R{P:Prop}(h:P:=by
 rw[Ys,Yem]
 exact hown3):P:=h
theorem Z2V{P:Prop}(h:P:=by
 have:=k2.size
 exact Zd):P:=h
theorem Z3c{P:Prop}(h:P:=by
 rw[HST.out,Yei Z2t]
 exact Z2t):P:=h
theorem Z4t{P:Prop}(h:P:=by
 rw[hst]
 exact Z2t):P:=h
theorem Z3N{P:Prop}(h:P:=by
 exact⟨0,by omega,rfl,rfl,YeD _ _ _ _,Yea _ _⟩):P:=h
section
variable (ta ga ua oa:Option Addr)(tc gc uc oc:Nat)(ts:List (List UInt8))(gs:GL)(us:PL)(sn ss:List UInt8)(lim:Int)(own:PL)(name:List UInt8)(all:Bool)(w:World)
 (C:YD w ts gs us sn ss lim own (.slice ta ts.length tc) (.slice ga gs.length gc) (.slice ua us.length uc) (.slice oa own.length oc))
 (hts:ts.length≤2500) (hgs:gs.length≤2500) (hP:PT w)
include C hts hgs hP
theorem YbX:Calls prog 162 #[Y2I (.slice ta ts.length tc) (.slice ga gs.length gc) (.slice ua us.length uc) (.slice oa own.length oc) sn ss lim,.string (bs name),.bool all] w fun e w' =>
 (∃v,e= .returned (.tuple #[v,errV 36 (if all=false∧ts.contains name=false then 8 else 0)])∧w'.ownsRow w.heap.size 78 2 v (Yy gs name all ts).length (Y0 (Yy gs name all ts)))∧Below w.heap.size w w':=by
 refine Z8 ?_;intro W1 hW1 b1 t0 t1 t2 t3 t4 t5 t6 z1;have ch:=fun W (hb:Below w.heap.size w W)=>hid (has_any ta tc (.slice ga gs.length gc) (.slice ua us.length uc) (.slice oa own.length oc) sn ss lim ts name W (C.ht.below hb) C.tn)
 have tn:=C.tn;have gn:=C.gn;have HC:=hid C;unfold Y2I at ch ⊢;have hpw:w.heap.size<W1.heap.size:=Z7
 cases all with
 | true =>
  clear C ch;go_enter func162,ntmps162;have T0:=hid t0;have T1:=hid t1;clear t0 t1 t2 t3 t4 t5 t6;have t0:=T0.out;go_wp2;clear t0;go_loopw [8,25] (fun o i wr=>RL1 gs name true ts W1.heap.size W1 o i wr) (fun _ i _=>ts.length - (intOf i).toNat)
  case atStart=>exact Z3Z
  case round =>
   obtain⟨k,hk,rfl,hown,hb⟩:=hrel;have hB:=hb.size
   skip
   have hbw:=b1.trans (hb.mono Z7);have t1:=(hb.cell (p:=⟨w.heap.size,1,none⟩) Zt).trans T1.out;by_cases hlt:k<ts.length
   ·obtain⟨b,o,rfl,hbl,hcell⟩:=(HC.out.ht.below hbw).open_ Z7;have g0:=hcell k hlt;have hst:=Y3a gs name true ts k hlt;have hll:=Y2U gs name true (ts.take k);have hxl:(Yy gs name true (ts.take k)).length≤6252500:=Yeu hll (Yeu (Ygg (show(ts.take k).length≤2500 by exact Z1X) (show 1+gs.length≤2501 from Z7)) Z7);clear hcell hll;generalize Yy gs name true (ts.take k)=xs at *
    generalize ts.getD k []=x at *;have HST:=hid hst;clear hst;have HO:=hid hown;clear hown;go_wp2_with (at_builtin;refine Yj rfl (.tmp 36) (.tmp 39) 27 rfl W1.heap.size 78 (.agg #[.string ⟨#[]⟩,.string ⟨#[]⟩]) 2 32 underlying27 Yv rfl Z16 _ xs.length (Y0 xs) rfl (HO.out.alloc _) ⟨wr.heap.size,0,none⟩ 1 1 [.string ⟨#[84,97,114,103,101,116,78,97,109,101]⟩,.string (bs x)] rfl rfl (YeW _ _ _ _) Z1H ZS Z7 Zd ?_;intro v' w3 hown3 hgrow _;refine Z1D ?_;intro hb3 t1)
    have hown4:w3.ownsRow W1.heap.size 78 2 v' (xs ++ [(Y1f,x)]).length (Y0 (xs ++ [(Y1f,x)])):=Z2R;have hxl2:(xs ++ [(Y1f,x)]).length≤6252501:=Zd;have HST2:=hid (show((xs ++ [(Y1f,x)]) ++ gs.map YT)=Yy gs name true (ts.take (k+1)) by exact Z3c);have HO4:=hid hown4;have hz3:=hb3.size;have hbw3:=b1.trans (hb3.mono Z7);have T1n:=hid ((hb3.cell (p:=⟨w.heap.size,1,none⟩) hpw).trans T1.out)
    have t1:=T1n.out;generalize (xs ++ [(Y1f,x)])=ys at *;clear hown3 hown4 hgrow HO HST hb hbw hB g0 hxl;go_wp2;go_loopw [8,44] (fun o i wr=>RL2 gs ys W1.heap.size w3 o i wr) (fun _ i _=>gs.length - (intOf i).toNat)
    case atStart=>exact Z2l
    case round =>
     obtain⟨j,hj,rfl,hown,hc⟩:=hrel;have hC:=hc.size;have hcw:=hbw3.trans (hc.mono Z7);by_cases hjl:j<gs.length
     ·obtain⟨_,b2,o2,c2,hveq,hbl2,hcell⟩:=(HC.out.hg.below hcw).open_.resolve_left Z3d
      cases hveq
      obtain⟨g0,g1⟩:=hcell j hjl;have hx1:=HC.out.gl j hjl;have hx2:=HC.out.capT j;have hst:=Y52 gs j hjl;have hyl:(ys ++ (gs.take j).map YT).length≤6255001:=Z2j;clear hcell;generalize gs.getD j ([],0)=g at *;obtain⟨y1,y2⟩:=g;have HST3:=hid (show(ys ++ (gs.take j).map YT) ++ [YT (y1,y2)]=ys ++ (gs.take (j+1)).map YT by exact Z4t);clear hst;simp only at hx1 hx2 g0 g1;generalize ys ++ (gs.take j).map YT=zs at *
      obtain⟨W6,hW6⟩: ∃W6,wr.alloc (.cells #[.string (bs y1),.int .i64 y2] 111)=W6:=⟨_,rfl⟩;have hA6:Below wr.heap.size wr W6:=Z2O;have b6:=hcw.trans (hA6.mono hcw.size);have p0:W6.cell? ⟨wr.heap.size,0,none⟩=some (.string (bs y1)):=Z1s;have p1:W6.cell? ⟨wr.heap.size,1,none⟩=some (.int .i64 y2):=Z1s;have hlt6:wr.heap.size<W6.heap.size:=Z1s;have HO6:=hid (Y2 hown hA6);have HOw:=hid hown;have hlim:=Lib.itoa_length_le y2 hx2.1 hx2.2
      have d3: ∀w':World,(w'.cell? ⟨wr.heap.size,0,none⟩=some (.string (bs y1))∧w'.cell? ⟨wr.heap.size,1,none⟩=some (.int .i64 y2)∧Below W6.heap.size W6 w')→
       Hid (Calls prog 91 #[.int .i64 y2] w' fun e w''=>e= .returned (.string (bs (Lib.itoa y2)))∧w''.cell? ⟨wr.heap.size,0,none⟩=some (.string (bs y1))∧w''.cell? ⟨wr.heap.size,1,none⟩=some (.int .i64 y2)∧Below W6.heap.size W6 w''):=by
       intro w' ⟨h0,h1,h2⟩;refine hid ((Y3n y2 hx2.1 hx2.2 w' (hP.below (b6.trans (h2.mono b6.size)) (Ye9 _))).mono ?_);rintro e w'' ⟨rfl,hq⟩;have hl:=Yee hlt6 h2.size;exact⟨rfl,(hq.cell (p:=⟨wr.heap.size,0,none⟩) hl).trans h0,(hq.cell (p:=⟨wr.heap.size,1,none⟩) hl).trans h1,h2.trans (hq.mono h2.size)⟩
      have hd:Below W6.heap.size W6 W6.drew:=(Yea _ _).drew;have HA6:=hid hA6;have hb6z:W1.heap.size≤W6.heap.size:=by have:=hA6.size;exact Z7
      have HAD:=hid (show YT (y1,y2)=(Y6X,y1 ++ [44] ++ Lib.itoa y2)from rfl);have HCC:=hid hc;have HBX:=hid hcw;generalize Lib.itoa y2=it at *;have hc1: ¬9223372036854775807<y1.length+1:=Z7;have hc2: ¬9223372036854775807<y1.length+1+it.length:=Z7;clear hown hA6 hc hcw b6;go_wp2_with fail;go_region_held3 (fun w'=>w'.cell? ⟨wr.heap.size,0,none⟩=some (.string (bs y1))∧w'.cell? ⟨wr.heap.size,1,none⟩=some (.int .i64 y2))
       (first | exact⟨by assumption,by assumption⟩ | go_keep | exact⟨(Y1z HOw.out hgrow ⟨wr.heap.size,0,none⟩ (Ye9 _) Z2V).trans (by simp[*]),(Y1z HOw.out hgrow ⟨wr.heap.size,1,none⟩ (Ye9 _) Z2V).trans (by simp[*])⟩)
       (first
         | (go_at_call 91;refine(d3 _ ?_).out.mono ?_;(first | exact⟨by assumption,by assumption,by assumption⟩ | exact⟨by simp[*],by simp[*],hd⟩);rintro e w7 ⟨rfl,k0,k1,k2⟩)
         | (refine Y13 rfl (.tmp 48) (.tmp 57) 27 (by rfl) W1.heap.size 78 (.agg #[.string ⟨#[]⟩,.string ⟨#[]⟩]) 2 32 underlying27 Yv rfl (by decide) u8 zs.length (Y0 zs) (by simp[Act.eval]) ((Y2 HO6.out k2).alloc _) ⟨w7.heap.size,0,none⟩ 1 1 [.string ⟨#[84,97,114,103,101,116,65,100,100,114,101,115,115]⟩,.string (bs (y1 ++ [44] ++ it))] (by simp[Act.eval]) rfl (YeW _ _ _ _) (by simp[Value.oneCell']) (by unfold maxLen;omega) (by omega) (by have:=k2.size;simp;omega) ?_;intro v' w8 hown8 hgrow _))
      all_goals
       have q1:Below W1.heap.size w3 w7:=(HCC.out.trans (HA6.out.mono Z7)).trans (k2.mono hb6z);have q1z:=q1.size;have q3:Below W1.heap.size w3 w8:=(q1.alloc Z7 _).grown hgrow Zd (fun g hg=>(HO6.out.lt g hg).1)
       have hown9:w8.ownsRow W1.heap.size 78 2 v' (ys ++ (gs.take (j+1)).map YT).length (Y0 (ys ++ (gs.take (j+1)).map YT)):=by
        rw[←HST3.out,HAD.out,Ys,Yem];exact hown8
       clear hown8 hgrow q1 k2 k0 k1 d3 p0 p1;go_wp2;exact⟨⟨j+1,by omega,by go_num,hown9,q3⟩,by simp[intOf];omega⟩
     ·obtain rfl:j=gs.length:=Z7;rw[Yex,HST2.out]at hown;have hcb:=hb3.trans hc;clear hc hcw;go_wp2;exact⟨⟨k+1,by omega,by go_num,hown,hcb⟩,by simp[intOf];omega⟩
   ·obtain rfl:k=ts.length:=Z7;rw[Yex]at hown;have hlt2: ¬((ts.length:Int) < (ts.length:Int)):=Z7;clear hk hB hlt;go_wp2;go_ret2;exact⟨⟨_,rfl,Y25 hown b1.size⟩,hbw⟩
 | false =>
  cases hc:ts.contains name with
  | false =>
   have HL:=hid (Y6E gs name ts hc);rw[hc]at ch;clear C;go_enter func162,ntmps162;go_wp2_with fail;refine(ch _ b1).out.mono ?_;rintro e w2 ⟨rfl,hb2⟩;go_wp2;go_ret2;refine⟨⟨_,rfl,?_⟩,b1.trans (hb2.mono b1.size)⟩;rw[HL.out];exact YeD _ _ _ _
  | true =>
   rw[hc]at ch;clear C;go_enter func162,ntmps162;go_wp2_with fail;refine(ch _ b1).out.mono ?_;rintro e w2 ⟨rfl,hb2⟩;have b2:=b1.trans (hb2.mono b1.size);have T0:=hid ((hb2.cell (p:=⟨w.heap.size,0,none⟩) hpw).trans t0);have T1:=hid ((hb2.cell (p:=⟨w.heap.size,1,none⟩) hpw).trans t1);clear t0 t1 t2 t3 t4 t5 t6;have t0:=T0.out;go_wp2;clear t0;go_loopw [8,25] (fun o i wr=>RL1 gs name false ts W1.heap.size w2 o i wr) (fun _ i _=>ts.length - (intOf i).toNat)
   case atStart=>exact Z3Z
   case round =>
    obtain⟨k,hk,rfl,hown,hb⟩:=hrel;have hB:=hb.size;have hWz:=hb2.size;have hbw:=b2.trans (hb.mono Z7);have t1:=(hb.cell (p:=⟨w.heap.size,1,none⟩) Zt).trans T1.out;by_cases hlt:k<ts.length
    ·obtain⟨b,o,rfl,hbl,hcell⟩:=(HC.out.ht.below hbw).open_ Z7;have g0:=hcell k hlt;have hst:=Y3a gs name false ts k hlt;have hll:=Y2U gs name false (ts.take k);have hxl:(Yy gs name false (ts.take k)).length≤6252500:=Yeu hll (Yeu (Ygg (show(ts.take k).length≤2500 by exact Z1X) (show 1+gs.length≤2501 from Z7)) Z7);clear hcell hll;generalize Yy gs name false (ts.take k)=xs at *
     generalize ts.getD k []=x at *;by_cases hxn:x=name
     ·have hnx:(x == name)=true:=Yfb.2 hxn;rw[hnx]at hst;have hneq:(x == name)=true:=hnx;clear hxn;have HST:=hid hst;clear hst;have HO:=hid hown;clear hown;go_wp2_with (at_builtin;refine Yj rfl (.tmp 36) (.tmp 39) 27 rfl W1.heap.size 78 (.agg #[.string ⟨#[]⟩,.string ⟨#[]⟩]) 2 32 underlying27 Yv rfl Z16 _ xs.length (Y0 xs) rfl (HO.out.alloc _) ⟨wr.heap.size,0,none⟩ 1 1 [.string ⟨#[84,97,114,103,101,116,78,97,109,101]⟩,.string (bs x)] rfl rfl (YeW _ _ _ _) Z1H ZS Z7 Zd ?_;intro v' w3 hown3 hgrow _;have hb3:Below W1.heap.size w2 w3:=(hb.alloc Z7 _).grown hgrow Zd (fun g hg=>(HO.out.lt g hg).1);have t1:=(hb3.cell (p:=⟨w.heap.size,1,none⟩) hpw).trans T1.out)
      have hown4:w3.ownsRow W1.heap.size 78 2 v' (xs ++ [(Y1f,x)]).length (Y0 (xs ++ [(Y1f,x)])):=Z2R;have hxl2:(xs ++ [(Y1f,x)]).length≤6252501:=Zd;have HST2:=hid (show((xs ++ [(Y1f,x)]) ++ gs.map YT)=Yy gs name false (ts.take (k+1)) by exact Z3c);have HO4:=hid hown4;have hz3:=hb3.size;have hbw3:=b2.trans (hb3.mono Z7);have T1n:=hid ((hb3.cell (p:=⟨w.heap.size,1,none⟩) hpw).trans T1.out)
      have t1:=T1n.out;generalize (xs ++ [(Y1f,x)])=ys at *;clear hown3 hown4 hgrow HO HST hb hbw hB g0 hxl;go_wp2;go_loopw [8,44] (fun o i wr=>RL2 gs ys W1.heap.size w3 o i wr) (fun _ i _=>gs.length - (intOf i).toNat)
      case atStart=>exact Z2l
      case round =>
       obtain⟨j,hj,rfl,hown,hc⟩:=hrel;have hC:=hc.size;have hcw:=hbw3.trans (hc.mono Z7);by_cases hjl:j<gs.length
       ·obtain⟨_,b2,o2,c2,hveq,hbl2,hcell⟩:=(HC.out.hg.below hcw).open_.resolve_left Z3d
        cases hveq
        obtain⟨g0,g1⟩:=hcell j hjl;have hx1:=HC.out.gl j hjl;have hx2:=HC.out.capT j;have hst:=Y52 gs j hjl;have hyl:(ys ++ (gs.take j).map YT).length≤6255001:=Z2j;clear hcell;generalize gs.getD j ([],0)=g at *;obtain⟨y1,y2⟩:=g;have HST3:=hid (show(ys ++ (gs.take j).map YT) ++ [YT (y1,y2)]=ys ++ (gs.take (j+1)).map YT by exact Z4t);clear hst;simp only at hx1 hx2 g0 g1;generalize ys ++ (gs.take j).map YT=zs at *
        obtain⟨W6,hW6⟩: ∃W6,wr.alloc (.cells #[.string (bs y1),.int .i64 y2] 111)=W6:=⟨_,rfl⟩;have hA6:Below wr.heap.size wr W6:=Z2O;have b6:=hcw.trans (hA6.mono hcw.size);have p0:W6.cell? ⟨wr.heap.size,0,none⟩=some (.string (bs y1)):=Z1s;have p1:W6.cell? ⟨wr.heap.size,1,none⟩=some (.int .i64 y2):=Z1s;have hlt6:wr.heap.size<W6.heap.size:=Z1s;have HO6:=hid (Y2 hown hA6);have HOw:=hid hown;have hlim:=Lib.itoa_length_le y2 hx2.1 hx2.2
        have d3: ∀w':World,(w'.cell? ⟨wr.heap.size,0,none⟩=some (.string (bs y1))∧w'.cell? ⟨wr.heap.size,1,none⟩=some (.int .i64 y2)∧Below W6.heap.size W6 w')→
         Hid (Calls prog 91 #[.int .i64 y2] w' fun e w''=>e= .returned (.string (bs (Lib.itoa y2)))∧w''.cell? ⟨wr.heap.size,0,none⟩=some (.string (bs y1))∧w''.cell? ⟨wr.heap.size,1,none⟩=some (.int .i64 y2)∧Below W6.heap.size W6 w''):=by
         intro w' ⟨h0,h1,h2⟩;refine hid ((Y3n y2 hx2.1 hx2.2 w' (hP.below (b6.trans (h2.mono b6.size)) (Ye9 _))).mono ?_);rintro e w'' ⟨rfl,hq⟩;have hl:=Yee hlt6 h2.size;exact⟨rfl,(hq.cell (p:=⟨wr.heap.size,0,none⟩) hl).trans h0,(hq.cell (p:=⟨wr.heap.size,1,none⟩) hl).trans h1,h2.trans (hq.mono h2.size)⟩
        have hd:Below W6.heap.size W6 W6.drew:=(Yea _ _).drew;have HA6:=hid hA6;have hb6z:W1.heap.size≤W6.heap.size:=by have:=hA6.size;exact Z7
        have HAD:=hid (show YT (y1,y2)=(Y6X,y1 ++ [44] ++ Lib.itoa y2)from rfl);have HCC:=hid hc;have HBX:=hid hcw;generalize Lib.itoa y2=it at *;have hc1: ¬9223372036854775807<y1.length+1:=Z7;have hc2: ¬9223372036854775807<y1.length+1+it.length:=Z7;clear hown hA6 hc hcw b6;go_wp2_with fail;go_region_held3 (fun w'=>w'.cell? ⟨wr.heap.size,0,none⟩=some (.string (bs y1))∧w'.cell? ⟨wr.heap.size,1,none⟩=some (.int .i64 y2))
         (first | exact⟨by assumption,by assumption⟩ | go_keep | exact⟨(Y1z HOw.out hgrow ⟨wr.heap.size,0,none⟩ (Ye9 _) Z2V).trans (by simp[*]),(Y1z HOw.out hgrow ⟨wr.heap.size,1,none⟩ (Ye9 _) Z2V).trans (by simp[*])⟩)
         (first
           | (go_at_call 91;refine(d3 _ ?_).out.mono ?_;(first | exact⟨by assumption,by assumption,by assumption⟩ | exact⟨by simp[*],by simp[*],hd⟩);rintro e w7 ⟨rfl,k0,k1,k2⟩)
           | (refine Y13 rfl (.tmp 48) (.tmp 57) 27 (by rfl) W1.heap.size 78 (.agg #[.string ⟨#[]⟩,.string ⟨#[]⟩]) 2 32 underlying27 Yv rfl (by decide) u8 zs.length (Y0 zs) (by simp[Act.eval]) ((Y2 HO6.out k2).alloc _) ⟨w7.heap.size,0,none⟩ 1 1 [.string ⟨#[84,97,114,103,101,116,65,100,100,114,101,115,115]⟩,.string (bs (y1 ++ [44] ++ it))] (by simp[Act.eval]) rfl (YeW _ _ _ _) (by simp[Value.oneCell']) (by unfold maxLen;omega) (by omega) (by have:=k2.size;simp;omega) ?_;intro v' w8 hown8 hgrow _))
        all_goals
         have q1:Below W1.heap.size w3 w7:=(HCC.out.trans (HA6.out.mono Z7)).trans (k2.mono hb6z);have q1z:=q1.size;have q3:Below W1.heap.size w3 w8:=(q1.alloc Z7 _).grown hgrow Zd (fun g hg=>(HO6.out.lt g hg).1)
         have hown9:w8.ownsRow W1.heap.size 78 2 v' (ys ++ (gs.take (j+1)).map YT).length (Y0 (ys ++ (gs.take (j+1)).map YT)):=by
          rw[←HST3.out,HAD.out,Ys,Yem];exact hown8
         clear hown8 hgrow q1 k2 k0 k1 d3 p0 p1;go_wp2;exact⟨⟨j+1,by omega,by go_num,hown9,q3⟩,by simp[intOf];omega⟩
       ·obtain rfl:j=gs.length:=Z7;rw[Yex,HST2.out]at hown;have hcb:=hb3.trans hc;clear hc hcw;go_wp2;exact⟨⟨k+1,by omega,by go_num,hown,hcb⟩,by simp[intOf];omega⟩
     ·have hnx:(x == name)=false:=Yen.2 hxn;rw[hnx]at hst;have HST:=hid (show Yy gs name false (ts.take (k+1))=xs from Z4t);clear hst hxn;go_wp2;exact⟨⟨k+1,by omega,by go_num,by rw[HST.out];exact hown,hb⟩,by simp[intOf];omega⟩
    ·obtain rfl:k=ts.length:=Z7;rw[Yex]at hown;have hlt2: ¬((ts.length:Int) < (ts.length:Int)):=Z7;clear hk hB hlt;go_wp2;go_ret2;exact⟨⟨_,rfl,Y25 hown b1.size⟩,hbw⟩
theorem Y7O:Calls prog 61 #[Y2I (.slice ta ts.length tc) (.slice ga gs.length gc) (.slice ua us.length uc) (.slice oa own.length oc) sn ss lim,.string (bs name),.bool all] w fun e w' =>
 (∃v,e= .returned (.tuple #[v,.int .i64 ((if all=false∧ts.contains name=false then 8 else 0:Nat):Int)])∧w'.ownsRow w.heap.size 78 2 v (Yy gs name all ts).length (Y0 (Yy gs name all ts)))∧Below w.heap.size w w':=by
 refine Z8 ?_;intro W1 hW1 b1 t0 t1 t2 t3 t4 t5 t6 z1;have tn:=C.tn;have gn:=C.gn;have HC:=hid C;unfold Y2I;have hpw:w.heap.size<W1.heap.size:=Z7
 cases all with
 | true =>
  clear C;go_enter func61,ntmps61;have T0:=hid t0;have T1:=hid t1;clear t0 t1 t2 t3 t4 t5 t6;have t0:=T0.out;go_wp2;clear t0;go_loopw [8,9,17] (fun o b i wr=>RL1R gs name true ts W1.heap.size W1 o b i wr) (fun _ _ i _=>ts.length - (intOf i).toNat)
  case atStart=>exact Z3N
  case round =>
   obtain⟨k,hk,rfl,rfl,hown,hb⟩:=hrel;have hB:=hb.size
   skip
   have hbw:=b1.trans (hb.mono Z7);have t1:=(hb.cell (p:=⟨w.heap.size,1,none⟩) Zt).trans T1.out;by_cases hlt:k<ts.length
   ·obtain⟨b,o,rfl,hbl,hcell⟩:=(HC.out.ht.below hbw).open_ Z7;have g0:=hcell k hlt;have hst:=Y3a gs name true ts k hlt;have HIS:=hid (Y5w name true ts k hlt);have hll:=Y2U gs name true (ts.take k);have hxl:(Yy gs name true (ts.take k)).length≤6252500:=Yeu hll (Yeu (Ygg (show(ts.take k).length≤2500 by exact Z1X) (show 1+gs.length≤2501 from Z7)) Z7)
    clear hcell hll;generalize Yy gs name true (ts.take k)=xs at *;generalize ts.getD k []=x at *;have HST:=hid hst;clear hst;have HO:=hid hown;clear hown;generalize Y5V name true (ts.take k)=ia at *;go_wp2_with (at_builtin;refine Yj rfl (.tmp 27) (.tmp 30) 27 rfl W1.heap.size 78 (.agg #[.string ⟨#[]⟩,.string ⟨#[]⟩]) 2 32 underlying27 Yv rfl Z16 _ xs.length (Y0 xs) rfl (HO.out.alloc _) ⟨wr.heap.size,0,none⟩ 1 1 [.string ⟨#[84,97,114,103,101,116,78,97,109,101]⟩,.string (bs x)] rfl rfl (YeW _ _ _ _) Z1H ZS Z7 Zd ?_;intro v' w3 hown3 hgrow _;refine Z1D ?_;intro hb3 t1)
    have hown4:w3.ownsRow W1.heap.size 78 2 v' (xs ++ [(Y1f,x)]).length (Y0 (xs ++ [(Y1f,x)])):=Z2R;have hxl2:(xs ++ [(Y1f,x)]).length≤6252501:=Zd;have HST2:=hid (show((xs ++ [(Y1f,x)]) ++ gs.map YT)=Yy gs name true (ts.take (k+1)) by exact Z3c);have HO4:=hid hown4;have hz3:=hb3.size;have hbw3:=b1.trans (hb3.mono Z7);have T1n:=hid ((hb3.cell (p:=⟨w.heap.size,1,none⟩) hpw).trans T1.out)
    have t1:=T1n.out;generalize (xs ++ [(Y1f,x)])=ys at *;clear hown3 hown4 hgrow HO HST hb hbw hB g0 hxl;go_wp2;go_loopw [8,35] (fun o i wr=>RL2 gs ys W1.heap.size w3 o i wr) (fun _ i _=>gs.length - (intOf i).toNat)
    case atStart=>exact Z2l
    case round =>
     obtain⟨j,hj,rfl,hown,hc⟩:=hrel;have hC:=hc.size;have hcw:=hbw3.trans (hc.mono Z7);by_cases hjl:j<gs.length
     ·obtain⟨_,b2,o2,c2,hveq,hbl2,hcell⟩:=(HC.out.hg.below hcw).open_.resolve_left Z3d
      cases hveq
      obtain⟨g0,g1⟩:=hcell j hjl;have hx1:=HC.out.gl j hjl;have hx2:=HC.out.capT j;have hst:=Y52 gs j hjl;have hyl:(ys ++ (gs.take j).map YT).length≤6255001:=Z2j;clear hcell;generalize gs.getD j ([],0)=g at *;obtain⟨y1,y2⟩:=g;have HST3:=hid (show(ys ++ (gs.take j).map YT) ++ [YT (y1,y2)]=ys ++ (gs.take (j+1)).map YT by exact Z4t);clear hst;simp only at hx1 hx2 g0 g1;generalize ys ++ (gs.take j).map YT=zs at *
      obtain⟨W6,hW6⟩: ∃W6,wr.alloc (.cells #[.string (bs y1),.int .i64 y2] 111)=W6:=⟨_,rfl⟩;have hA6:Below wr.heap.size wr W6:=Z2O;have b6:=hcw.trans (hA6.mono hcw.size);have p0:W6.cell? ⟨wr.heap.size,0,none⟩=some (.string (bs y1)):=Z1s;have p1:W6.cell? ⟨wr.heap.size,1,none⟩=some (.int .i64 y2):=Z1s;have hlt6:wr.heap.size<W6.heap.size:=Z1s;have HO6:=hid (Y2 hown hA6);have HOw:=hid hown;have hlim:=Lib.itoa_length_le y2 hx2.1 hx2.2
      have d3: ∀w':World,(w'.cell? ⟨wr.heap.size,0,none⟩=some (.string (bs y1))∧w'.cell? ⟨wr.heap.size,1,none⟩=some (.int .i64 y2)∧Below W6.heap.size W6 w')→
       Hid (Calls prog 91 #[.int .i64 y2] w' fun e w''=>e= .returned (.string (bs (Lib.itoa y2)))∧w''.cell? ⟨wr.heap.size,0,none⟩=some (.string (bs y1))∧w''.cell? ⟨wr.heap.size,1,none⟩=some (.int .i64 y2)∧Below W6.heap.size W6 w''):=by
       intro w' ⟨h0,h1,h2⟩;refine hid ((Y3n y2 hx2.1 hx2.2 w' (hP.below (b6.trans (h2.mono b6.size)) (Ye9 _))).mono ?_);rintro e w'' ⟨rfl,hq⟩;have hl:=Yee hlt6 h2.size;exact⟨rfl,(hq.cell (p:=⟨wr.heap.size,0,none⟩) hl).trans h0,(hq.cell (p:=⟨wr.heap.size,1,none⟩) hl).trans h1,h2.trans (hq.mono h2.size)⟩
      have hd:Below W6.heap.size W6 W6.drew:=(Yea _ _).drew;have HA6:=hid hA6;have hb6z:W1.heap.size≤W6.heap.size:=by have:=hA6.size;exact Z7
      have HAD:=hid (show YT (y1,y2)=(Y6X,y1 ++ [44] ++ Lib.itoa y2)from rfl);have HCC:=hid hc;have HBX:=hid hcw;generalize Lib.itoa y2=it at *;have hc1: ¬9223372036854775807<y1.length+1:=Z7;have hc2: ¬9223372036854775807<y1.length+1+it.length:=Z7;clear hown hA6 hc hcw b6;go_wp2_with fail;go_region_held3 (fun w'=>w'.cell? ⟨wr.heap.size,0,none⟩=some (.string (bs y1))∧w'.cell? ⟨wr.heap.size,1,none⟩=some (.int .i64 y2))
       (first | exact⟨by assumption,by assumption⟩ | go_keep | exact⟨(Y1z HOw.out hgrow ⟨wr.heap.size,0,none⟩ (Ye9 _) Z2V).trans (by simp[*]),(Y1z HOw.out hgrow ⟨wr.heap.size,1,none⟩ (Ye9 _) Z2V).trans (by simp[*])⟩)
       (first
         | (go_at_call 91;refine(d3 _ ?_).out.mono ?_;(first | exact⟨by assumption,by assumption,by assumption⟩ | exact⟨by simp[*],by simp[*],hd⟩);rintro e w7 ⟨rfl,k0,k1,k2⟩)
         | (refine Y13 rfl (.tmp 39) (.tmp 48) 27 (by rfl) W1.heap.size 78 (.agg #[.string ⟨#[]⟩,.string ⟨#[]⟩]) 2 32 underlying27 Yv rfl (by decide) u8 zs.length (Y0 zs) (by simp[Act.eval]) ((Y2 HO6.out k2).alloc _) ⟨w7.heap.size,0,none⟩ 1 1 [.string ⟨#[84,97,114,103,101,116,65,100,100,114,101,115,115]⟩,.string (bs (y1 ++ [44] ++ it))] (by simp[Act.eval]) rfl (YeW _ _ _ _) (by simp[Value.oneCell']) (by unfold maxLen;omega) (by omega) (by have:=k2.size;simp;omega) ?_;intro v' w8 hown8 hgrow _))
      all_goals
       have q1:Below W1.heap.size w3 w7:=(HCC.out.trans (HA6.out.mono Z7)).trans (k2.mono hb6z);have q1z:=q1.size;have q3:Below W1.heap.size w3 w8:=(q1.alloc Z7 _).grown hgrow Zd (fun g hg=>(HO6.out.lt g hg).1)
       have hown9:w8.ownsRow W1.heap.size 78 2 v' (ys ++ (gs.take (j+1)).map YT).length (Y0 (ys ++ (gs.take (j+1)).map YT)):=by
        rw[←HST3.out,HAD.out,Ys,Yem];exact hown8
       clear hown8 hgrow q1 k2 k0 k1 d3 p0 p1;go_wp2;exact⟨⟨j+1,by omega,by go_num,hown9,q3⟩,by simp[intOf];omega⟩
     ·obtain rfl:j=gs.length:=Z7;rw[Yex,HST2.out]at hown;have hcb:=hb3.trans hc;clear hc hcw;go_wp2;exact⟨⟨k+1,by omega,by go_num,by rw[HIS.out];simp,hown,hcb⟩,by simp[intOf];omega⟩
   ·obtain rfl:k=ts.length:=Z7;rw[Yex]at hown;have hlt2: ¬((ts.length:Int) < (ts.length:Int)):=Z7;clear hk hB hlt;rw[Yex];generalize Y5V name true ts=q
    cases q with
    | true =>
     go_wp2;go_ret2;exact⟨⟨_,rfl,Y25 hown b1.size⟩,hbw⟩
    | false =>
     go_wp2;go_ret2;exact⟨⟨_,rfl,Y25 hown b1.size⟩,hbw⟩
 | false =>
  cases hc:ts.contains name with
  | false =>
   have HL:=hid (Y6E gs name ts hc);have HISF:=hid (show Y5V name false ts=false by rw[Y6I,hc]);clear C hc;go_enter func61,ntmps61;have T0:=hid t0;have T1:=hid t1;clear t0 t1 t2 t3 t4 t5 t6;have t0:=T0.out;go_wp2;clear t0;go_loopw [8,9,17] (fun o b i wr=>RL1R gs name false ts W1.heap.size W1 o b i wr) (fun _ _ i _=>ts.length - (intOf i).toNat)
   case atStart=>exact Z3N
   case round =>
    obtain⟨k,hk,rfl,rfl,hown,hb⟩:=hrel;have hB:=hb.size
    skip
    have hbw:=b1.trans (hb.mono Z7);have t1:=(hb.cell (p:=⟨w.heap.size,1,none⟩) Zt).trans T1.out;by_cases hlt:k<ts.length
    ·obtain⟨b,o,rfl,hbl,hcell⟩:=(HC.out.ht.below hbw).open_ Z7;have g0:=hcell k hlt;have hst:=Y3a gs name false ts k hlt;have HIS:=hid (Y5w name false ts k hlt);have hll:=Y2U gs name false (ts.take k);have hxl:(Yy gs name false (ts.take k)).length≤6252500:=Yeu hll (Yeu (Ygg (show(ts.take k).length≤2500 by exact Z1X) (show 1+gs.length≤2501 from Z7)) Z7)
     clear hcell hll;generalize Yy gs name false (ts.take k)=xs at *;generalize ts.getD k []=x at *;by_cases hxn:x=name
     ·have hnx:(x == name)=true:=Yfb.2 hxn;rw[hnx]at hst;rw[hnx]at HIS;have hneq:(x == name)=true:=hnx;clear hxn;have HST:=hid hst;clear hst;have HO:=hid hown;clear hown;generalize Y5V name false (ts.take k)=ia at *;go_wp2_with (at_builtin;refine Yj rfl (.tmp 27) (.tmp 30) 27 rfl W1.heap.size 78 (.agg #[.string ⟨#[]⟩,.string ⟨#[]⟩]) 2 32 underlying27 Yv rfl Z16 _ xs.length (Y0 xs) rfl (HO.out.alloc _) ⟨wr.heap.size,0,none⟩ 1 1 [.string ⟨#[84,97,114,103,101,116,78,97,109,101]⟩,.string (bs x)] rfl rfl (YeW _ _ _ _) Z1H ZS Z7 Zd ?_;intro v' w3 hown3 hgrow _;refine Z1D ?_;intro hb3 t1)
      have hown4:w3.ownsRow W1.heap.size 78 2 v' (xs ++ [(Y1f,x)]).length (Y0 (xs ++ [(Y1f,x)])):=Z2R;have hxl2:(xs ++ [(Y1f,x)]).length≤6252501:=Zd;have HST2:=hid (show((xs ++ [(Y1f,x)]) ++ gs.map YT)=Yy gs name false (ts.take (k+1)) by exact Z3c);have HO4:=hid hown4;have hz3:=hb3.size;have hbw3:=b1.trans (hb3.mono Z7);have T1n:=hid ((hb3.cell (p:=⟨w.heap.size,1,none⟩) hpw).trans T1.out)
      have t1:=T1n.out;generalize (xs ++ [(Y1f,x)])=ys at *;clear hown3 hown4 hgrow HO HST hb hbw hB g0 hxl;go_wp2;go_loopw [8,35] (fun o i wr=>RL2 gs ys W1.heap.size w3 o i wr) (fun _ i _=>gs.length - (intOf i).toNat)
      case atStart=>exact Z2l
      case round =>
       obtain⟨j,hj,rfl,hown,hc⟩:=hrel;have hC:=hc.size;have hcw:=hbw3.trans (hc.mono Z7);by_cases hjl:j<gs.length
       ·obtain⟨_,b2,o2,c2,hveq,hbl2,hcell⟩:=(HC.out.hg.below hcw).open_.resolve_left Z3d
        cases hveq
        obtain⟨g0,g1⟩:=hcell j hjl;have hx1:=HC.out.gl j hjl;have hx2:=HC.out.capT j;have hst:=Y52 gs j hjl;have hyl:(ys ++ (gs.take j).map YT).length≤6255001:=Z2j;clear hcell;generalize gs.getD j ([],0)=g at *;obtain⟨y1,y2⟩:=g;have HST3:=hid (show(ys ++ (gs.take j).map YT) ++ [YT (y1,y2)]=ys ++ (gs.take (j+1)).map YT by exact Z4t);clear hst;simp only at hx1 hx2 g0 g1;generalize ys ++ (gs.take j).map YT=zs at *
        obtain⟨W6,hW6⟩: ∃W6,wr.alloc (.cells #[.string (bs y1),.int .i64 y2] 111)=W6:=⟨_,rfl⟩;have hA6:Below wr.heap.size wr W6:=Z2O;have b6:=hcw.trans (hA6.mono hcw.size);have p0:W6.cell? ⟨wr.heap.size,0,none⟩=some (.string (bs y1)):=Z1s;have p1:W6.cell? ⟨wr.heap.size,1,none⟩=some (.int .i64 y2):=Z1s;have hlt6:wr.heap.size<W6.heap.size:=Z1s;have HO6:=hid (Y2 hown hA6);have HOw:=hid hown;have hlim:=Lib.itoa_length_le y2 hx2.1 hx2.2
        have d3: ∀w':World,(w'.cell? ⟨wr.heap.size,0,none⟩=some (.string (bs y1))∧w'.cell? ⟨wr.heap.size,1,none⟩=some (.int .i64 y2)∧Below W6.heap.size W6 w')→
         Hid (Calls prog 91 #[.int .i64 y2] w' fun e w''=>e= .returned (.string (bs (Lib.itoa y2)))∧w''.cell? ⟨wr.heap.size,0,none⟩=some (.string (bs y1))∧w''.cell? ⟨wr.heap.size,1,none⟩=some (.int .i64 y2)∧Below W6.heap.size W6 w''):=by
         intro w' ⟨h0,h1,h2⟩;refine hid ((Y3n y2 hx2.1 hx2.2 w' (hP.below (b6.trans (h2.mono b6.size)) (Ye9 _))).mono ?_);rintro e w'' ⟨rfl,hq⟩;have hl:=Yee hlt6 h2.size;exact⟨rfl,(hq.cell (p:=⟨wr.heap.size,0,none⟩) hl).trans h0,(hq.cell (p:=⟨wr.heap.size,1,none⟩) hl).trans h1,h2.trans (hq.mono h2.size)⟩
        have hd:Below W6.heap.size W6 W6.drew:=(Yea _ _).drew;have HA6:=hid hA6;have hb6z:W1.heap.size≤W6.heap.size:=by have:=hA6.size;exact Z7
        have HAD:=hid (show YT (y1,y2)=(Y6X,y1 ++ [44] ++ Lib.itoa y2)from rfl);have HCC:=hid hc;have HBX:=hid hcw;generalize Lib.itoa y2=it at *;have hc1: ¬9223372036854775807<y1.length+1:=Z7;have hc2: ¬9223372036854775807<y1.length+1+it.length:=Z7;clear hown hA6 hc hcw b6;go_wp2_with fail;go_region_held3 (fun w'=>w'.cell? ⟨wr.heap.size,0,none⟩=some (.string (bs y1))∧w'.cell? ⟨wr.heap.size,1,none⟩=some (.int .i64 y2))
         (first | exact⟨by assumption,by assumption⟩ | go_keep | exact⟨(Y1z HOw.out hgrow ⟨wr.heap.size,0,none⟩ (Ye9 _) Z2V).trans (by simp[*]),(Y1z HOw.out hgrow ⟨wr.heap.size,1,none⟩ (Ye9 _) Z2V).trans (by simp[*])⟩)
         (first
           | (go_at_call 91;refine(d3 _ ?_).out.mono ?_;(first | exact⟨by assumption,by assumption,by assumption⟩ | exact⟨by simp[*],by simp[*],hd⟩);rintro e w7 ⟨rfl,k0,k1,k2⟩)
           | (refine Y13 rfl (.tmp 39) (.tmp 48) 27 (by rfl) W1.heap.size 78 (.agg #[.string ⟨#[]⟩,.string ⟨#[]⟩]) 2 32 underlying27 Yv rfl (by decide) u8 zs.length (Y0 zs) (by simp[Act.eval]) ((Y2 HO6.out k2).alloc _) ⟨w7.heap.size,0,none⟩ 1 1 [.string ⟨#[84,97,114,103,101,116,65,100,100,114,101,115,115]⟩,.string (bs (y1 ++ [44] ++ it))] (by simp[Act.eval]) rfl (YeW _ _ _ _) (by simp[Value.oneCell']) (by unfold maxLen;omega) (by omega) (by have:=k2.size;simp;omega) ?_;intro v' w8 hown8 hgrow _))
        all_goals
         have q1:Below W1.heap.size w3 w7:=(HCC.out.trans (HA6.out.mono Z7)).trans (k2.mono hb6z);have q1z:=q1.size;have q3:Below W1.heap.size w3 w8:=(q1.alloc Z7 _).grown hgrow Zd (fun g hg=>(HO6.out.lt g hg).1)
         have hown9:w8.ownsRow W1.heap.size 78 2 v' (ys ++ (gs.take (j+1)).map YT).length (Y0 (ys ++ (gs.take (j+1)).map YT)):=by
          rw[←HST3.out,HAD.out,Ys,Yem];exact hown8
         clear hown8 hgrow q1 k2 k0 k1 d3 p0 p1;go_wp2;exact⟨⟨j+1,by omega,by go_num,hown9,q3⟩,by simp[intOf];omega⟩
       ·obtain rfl:j=gs.length:=Z7;rw[Yex,HST2.out]at hown;have hcb:=hb3.trans hc;clear hc hcw;go_wp2;exact⟨⟨k+1,by omega,by go_num,by rw[HIS.out];simp,hown,hcb⟩,by simp[intOf];omega⟩
     ·have hnx:(x == name)=false:=Yen.2 hxn;rw[hnx]at hst;rw[hnx]at HIS;have HST:=hid (show Yy gs name false (ts.take (k+1))=xs from Z4t);clear hst hxn;go_wp2;exact⟨⟨k+1,by omega,by go_num,by rw[HIS.out];simp,by rw[HST.out];exact hown,hb⟩,by simp[intOf];omega⟩
    ·obtain rfl:k=ts.length:=Z7;rw[Yex]at hown;have hlt2: ¬((ts.length:Int) < (ts.length:Int)):=Z7;clear hk hB hlt;rw[Yex];rw[HISF.out];go_wp2;go_ret2;refine⟨⟨_,rfl,?_⟩,hbw⟩;rw[HL.out];exact YeD _ _ _ _
  | true =>
   have HISF:=hid (show Y5V name false ts=true by rw[Y6I,hc]);clear C hc;go_enter func61,ntmps61;have T0:=hid t0;have T1:=hid t1;clear t0 t1 t2 t3 t4 t5 t6;have t0:=T0.out;go_wp2;clear t0;go_loopw [8,9,17] (fun o b i wr=>RL1R gs name false ts W1.heap.size W1 o b i wr) (fun _ _ i _=>ts.length - (intOf i).toNat)
   case atStart=>exact Z3N
   case round =>
    obtain⟨k,hk,rfl,rfl,hown,hb⟩:=hrel;have hB:=hb.size
    skip
    have hbw:=b1.trans (hb.mono Z7);have t1:=(hb.cell (p:=⟨w.heap.size,1,none⟩) Zt).trans T1.out;by_cases hlt:k<ts.length
    ·obtain⟨b,o,rfl,hbl,hcell⟩:=(HC.out.ht.below hbw).open_ Z7;have g0:=hcell k hlt;have hst:=Y3a gs name false ts k hlt;have HIS:=hid (Y5w name false ts k hlt);have hll:=Y2U gs name false (ts.take k);have hxl:(Yy gs name false (ts.take k)).length≤6252500:=Yeu hll (Yeu (Ygg (show(ts.take k).length≤2500 by exact Z1X) (show 1+gs.length≤2501 from Z7)) Z7)
     clear hcell hll;generalize Yy gs name false (ts.take k)=xs at *;generalize ts.getD k []=x at *;by_cases hxn:x=name
     ·have hnx:(x == name)=true:=Yfb.2 hxn;rw[hnx]at hst;rw[hnx]at HIS;have hneq:(x == name)=true:=hnx;clear hxn;have HST:=hid hst;clear hst;have HO:=hid hown;clear hown;generalize Y5V name false (ts.take k)=ia at *;go_wp2_with (at_builtin;refine Yj rfl (.tmp 27) (.tmp 30) 27 rfl W1.heap.size 78 (.agg #[.string ⟨#[]⟩,.string ⟨#[]⟩]) 2 32 underlying27 Yv rfl Z16 _ xs.length (Y0 xs) rfl (HO.out.alloc _) ⟨wr.heap.size,0,none⟩ 1 1 [.string ⟨#[84,97,114,103,101,116,78,97,109,101]⟩,.string (bs x)] rfl rfl (YeW _ _ _ _) Z1H ZS Z7 Zd ?_;intro v' w3 hown3 hgrow _;refine Z1D ?_;intro hb3 t1)
      have hown4:w3.ownsRow W1.heap.size 78 2 v' (xs ++ [(Y1f,x)]).length (Y0 (xs ++ [(Y1f,x)])):=Z2R;have hxl2:(xs ++ [(Y1f,x)]).length≤6252501:=Zd;have HST2:=hid (show((xs ++ [(Y1f,x)]) ++ gs.map YT)=Yy gs name false (ts.take (k+1)) by exact Z3c);have HO4:=hid hown4;have hz3:=hb3.size;have hbw3:=b1.trans (hb3.mono Z7);have T1n:=hid ((hb3.cell (p:=⟨w.heap.size,1,none⟩) hpw).trans T1.out)
      have t1:=T1n.out;generalize (xs ++ [(Y1f,x)])=ys at *;clear hown3 hown4 hgrow HO HST hb hbw hB g0 hxl;go_wp2;go_loopw [8,35] (fun o i wr=>RL2 gs ys W1.heap.size w3 o i wr) (fun _ i _=>gs.length - (intOf i).toNat)
      case atStart=>exact Z2l
      case round =>
       obtain⟨j,hj,rfl,hown,hc⟩:=hrel;have hC:=hc.size;have hcw:=hbw3.trans (hc.mono Z7);by_cases hjl:j<gs.length
       ·obtain⟨_,b2,o2,c2,hveq,hbl2,hcell⟩:=(HC.out.hg.below hcw).open_.resolve_left Z3d
        cases hveq
        obtain⟨g0,g1⟩:=hcell j hjl;have hx1:=HC.out.gl j hjl;have hx2:=HC.out.capT j;have hst:=Y52 gs j hjl;have hyl:(ys ++ (gs.take j).map YT).length≤6255001:=Z2j;clear hcell;generalize gs.getD j ([],0)=g at *;obtain⟨y1,y2⟩:=g;have HST3:=hid (show(ys ++ (gs.take j).map YT) ++ [YT (y1,y2)]=ys ++ (gs.take (j+1)).map YT by exact Z4t);clear hst;simp only at hx1 hx2 g0 g1;generalize ys ++ (gs.take j).map YT=zs at *
        obtain⟨W6,hW6⟩: ∃W6,wr.alloc (.cells #[.string (bs y1),.int .i64 y2] 111)=W6:=⟨_,rfl⟩;have hA6:Below wr.heap.size wr W6:=Z2O;have b6:=hcw.trans (hA6.mono hcw.size);have p0:W6.cell? ⟨wr.heap.size,0,none⟩=some (.string (bs y1)):=Z1s;have p1:W6.cell? ⟨wr.heap.size,1,none⟩=some (.int .i64 y2):=Z1s;have hlt6:wr.heap.size<W6.heap.size:=Z1s;have HO6:=hid (Y2 hown hA6);have HOw:=hid hown;have hlim:=Lib.itoa_length_le y2 hx2.1 hx2.2
        have d3: ∀w':World,(w'.cell? ⟨wr.heap.size,0,none⟩=some (.string (bs y1))∧w'.cell? ⟨wr.heap.size,1,none⟩=some (.int .i64 y2)∧Below W6.heap.size W6 w')→
         Hid (Calls prog 91 #[.int .i64 y2] w' fun e w''=>e= .returned (.string (bs (Lib.itoa y2)))∧w''.cell? ⟨wr.heap.size,0,none⟩=some (.string (bs y1))∧w''.cell? ⟨wr.heap.size,1,none⟩=some (.int .i64 y2)∧Below W6.heap.size W6 w''):=by
         intro w' ⟨h0,h1,h2⟩;refine hid ((Y3n y2 hx2.1 hx2.2 w' (hP.below (b6.trans (h2.mono b6.size)) (Ye9 _))).mono ?_);rintro e w'' ⟨rfl,hq⟩;have hl:=Yee hlt6 h2.size;exact⟨rfl,(hq.cell (p:=⟨wr.heap.size,0,none⟩) hl).trans h0,(hq.cell (p:=⟨wr.heap.size,1,none⟩) hl).trans h1,h2.trans (hq.mono h2.size)⟩
        have hd:Below W6.heap.size W6 W6.drew:=(Yea _ _).drew;have HA6:=hid hA6;have hb6z:W1.heap.size≤W6.heap.size:=by have:=hA6.size;exact Z7
        have HAD:=hid (show YT (y1,y2)=(Y6X,y1 ++ [44] ++ Lib.itoa y2)from rfl);have HCC:=hid hc;have HBX:=hid hcw;generalize Lib.itoa y2=it at *;have hc1: ¬9223372036854775807<y1.length+1:=Z7;have hc2: ¬9223372036854775807<y1.length+1+it.length:=Z7;clear hown hA6 hc hcw b6;go_wp2_with fail;go_region_held3 (fun w'=>w'.cell? ⟨wr.heap.size,0,none⟩=some (.string (bs y1))∧w'.cell? ⟨wr.heap.size,1,none⟩=some (.int .i64 y2))
         (first | exact⟨by assumption,by assumption⟩ | go_keep | exact⟨(Y1z HOw.out hgrow ⟨wr.heap.size,0,none⟩ (Ye9 _) Z2V).trans (by simp[*]),(Y1z HOw.out hgrow ⟨wr.heap.size,1,none⟩ (Ye9 _) Z2V).trans (by simp[*])⟩)
         (first
           | (go_at_call 91;refine(d3 _ ?_).out.mono ?_;(first | exact⟨by assumption,by assumption,by assumption⟩ | exact⟨by simp[*],by simp[*],hd⟩);rintro e w7 ⟨rfl,k0,k1,k2⟩)
           | (refine Y13 rfl (.tmp 39) (.tmp 48) 27 (by rfl) W1.heap.size 78 (.agg #[.string ⟨#[]⟩,.string ⟨#[]⟩]) 2 32 underlying27 Yv rfl (by decide) u8 zs.length (Y0 zs) (by simp[Act.eval]) ((Y2 HO6.out k2).alloc _) ⟨w7.heap.size,0,none⟩ 1 1 [.string ⟨#[84,97,114,103,101,116,65,100,100,114,101,115,115]⟩,.string (bs (y1 ++ [44] ++ it))] (by simp[Act.eval]) rfl (YeW _ _ _ _) (by simp[Value.oneCell']) (by unfold maxLen;omega) (by omega) (by have:=k2.size;simp;omega) ?_;intro v' w8 hown8 hgrow _))
        all_goals
         have q1:Below W1.heap.size w3 w7:=(HCC.out.trans (HA6.out.mono Z7)).trans (k2.mono hb6z);have q1z:=q1.size;have q3:Below W1.heap.size w3 w8:=(q1.alloc Z7 _).grown hgrow Zd (fun g hg=>(HO6.out.lt g hg).1)
         have hown9:w8.ownsRow W1.heap.size 78 2 v' (ys ++ (gs.take (j+1)).map YT).length (Y0 (ys ++ (gs.take (j+1)).map YT)):=by
          rw[←HST3.out,HAD.out,Ys,Yem];exact hown8
         clear hown8 hgrow q1 k2 k0 k1 d3 p0 p1;go_wp2;exact⟨⟨j+1,by omega,by go_num,hown9,q3⟩,by simp[intOf];omega⟩
       ·obtain rfl:j=gs.length:=Z7;rw[Yex,HST2.out]at hown;have hcb:=hb3.trans hc;clear hc hcw;go_wp2;exact⟨⟨k+1,by omega,by go_num,by rw[HIS.out];simp,hown,hcb⟩,by simp[intOf];omega⟩
     ·have hnx:(x == name)=false:=Yen.2 hxn;rw[hnx]at hst;rw[hnx]at HIS;have HST:=hid (show Yy gs name false (ts.take (k+1))=xs from Z4t);clear hst hxn;go_wp2;exact⟨⟨k+1,by omega,by go_num,by rw[HIS.out];simp,by rw[HST.out];exact hown,hb⟩,by simp[intOf];omega⟩
    ·obtain rfl:k=ts.length:=Z7;rw[Yex]at hown;have hlt2: ¬((ts.length:Int) < (ts.length:Int)):=Z7;clear hk hB hlt;rw[Yex];rw[HISF.out];go_wp2;go_ret2;exact⟨⟨_,rfl,Y25 hown b1.size⟩,hbw⟩
end
end Go.Proofs.YtfadikchijkcfaaGreatDoor
