/- Parts of the proof of ScriptTurns. -/
import Derived.Test.YtkghejaimhoboaaGreatDoorPk36
import Derived.Test.YtkghejaimhoboaaGreatDoorPk31
import Derived.Test.YtkghejaimhoboaaGreatDoorPk27
set_option linter.unusedSimpArgs false
set_option linter.unusedVariables false
set_option maxRecDepth 100000
set_option maxHeartbeats 8000000
namespace Go.Proofs.YtkghejaimhoboaaGreatDoor
open Go.RowKit Go.Shelf Go.Proofs.Tryz
section
theorem cT{P:Prop}(h:P:=by refine leaves_cons (f:=94) (args:=#[.pointer (some ⟨w.heap.size,0,none⟩),.pointer (some ⟨w.heap.size+1,0,none⟩)]) (by simp) (by simp[go_sem]) ?_;refine(ME _ _ _ _ _ (by first | exact Bv.out | rfl) gP gE (by omega)).mono ?_;rintro e u' w9 ⟨rfl,rfl,Gr,he9,cC⟩;simp only[Leaves,settle,List.dropWhile];have k9:=he9.cell;have f9:=aj Gr 52 underlying52 rfl (by kernel_rfl);refine⟨_,uO (v:=.agg bF) (x:=.int .i64 260) results57 rfl rfl f9 (by simp[go_sem,k9,loadVar]),?_⟩;exact ZY.no (gB.trans (cC.ag gB.size (by simp))) gN):P:=h
attribute [local go_sem] Oper.semAt_some
structure ZY (s:List UInt8)(w:World)(e:Ending)(w':World):Prop where
 ag:Below w.heap.size w w'
 out:∃(y:Pk)(h:H3)(z:Int),e=.returned (.tuple #[.agg (y.cells h).toArray,.int .i64 z])/\((z=0/\bg s=some y)\/(z≠0/\bg s=none))/\∀M,(∀b∈M,b<w.heap.size)->vE w' y h M
theorem ZY.no{s:List UInt8}{w w':World}(hb:Below w.heap.size w w')(h:bg s=none):ZY s w (.returned (.tuple #[.agg bF,.int .i64 260])) w':=
 ⟨hb,aN 0,bo,260,rfl,.inr ⟨by decide,h⟩,fun M _=>vE.zero _ _ ⟨rfl,rfl,rfl⟩ M⟩
theorem qT{P:Program}{fn:Func}{t t':Array Value}{R:Ending->World->Prop}(h:results fn t=results fn t'):∀(ds:List Deferred)(u:FrameMode)(w:World),Leaves P fn t R ds u w=Leaves P fn t' R ds u w
 | [],u,w=>by cases u<;>simp only[Leaves,h]
 |d::ds,u,w=>by have ih:=qT h (R:=R) (P:=P) ds;simp only[Leaves,ih]
theorem MI{ops:Array Oper}{i:Nat}{oi:Oper}(hi:ops[i]?=some oi)(h:ops.all (fun o=>o.dst !=some 2&&o.dst !=some 3)=true):oi.dst≠some 2/\oi.dst≠some 3:=by obtain⟨hlt,rfl⟩:=Array.getElem?_eq_some_iff.1 hi;have:=Array.all_eq_true.1 h i hlt;simpa using this
theorem kU{w:World}{p b:Nat}{T:TypeId}{v:Value}(h:ar w p bF 52)(k:Boxed w b T v):b≠p:=fun e=>by have h1:w.heap[p]?=_:=h;have h2:w.heap[b]?=_:=k;rw[e,h1]at h2;have h3:=(Obj.cells.inj (Option.some.inj h2)).1;have h4:=congrArg Array.size h3;exact absurd h4 (by show¬(24=1);decide)
theorem Ev{w:World}{p:Nat}{a:Option Addr}{n c:Nat}(h1:ar w p #[.slice a n c,.bool true] 94):Calls prog 25 #[.pointer (some ⟨p,0,none⟩)] w fun e w'=>e=.returned (.int .i64 n)/\w=w':=by
 have k1:=h1.cell 1;have k0:=h1.cell 0;simp at k0;have CN:Hid (Calls prog 44 #[.pointer (some ⟨p,0,none⟩)] w fun e w'=>e=.returned (.bool false)/\w=w'):=af (by go_enter func44,ntmps44;go_wp2;go_ret;exact⟨rfl,rfl⟩)
 go_enter func25,ntmps25;go_wp2_with (go_at_call 44;refine CN.mono ?_;rintro e w' ⟨rfl,rfl⟩)
 go_ret;exact⟨rfl,rfl⟩
structure Yi (w:World)(pc:Array Value)(z:Pk)(hh:H3)(kb rb q:Nat)(cs:Array Value)(b:Nat->Nat)(n9:Nat)(W:World):Prop where
 ag:Below w.heap.size w W
 pk:ar W w.heap.size pc 52
 er:Boxed W (w.heap.size+1) 31 (.int .i64 0)
 shp:ar W kb cs 150
 JD:ar W rb #[.pointer (some ⟨q,0,none⟩)] 161
 left:∃a c,ar W q #[.slice a n9 c,.bool true] 94
 box:∀k,4<=k->k<=11->kQ b k W
 rows:∀M,(∀y∈M,y<w.heap.size+2)->vE W z hh M
theorem Yi.step{w:World}{pc:Array Value}{z:Pk}{hh:H3}{kb rb q:Nat}{cs:Array Value}{b:Nat->Nat}{n9:Nat}{W W':World}(h:Yi w pc z hh kb rb q cs b n9 W)(hb:Below W.heap.size W W'):Yi w pc z hh kb rb q cs b n9 W':=by obtain⟨a,c,hl⟩:=h.left;exact⟨h.ag.trans (hb.mono h.ag.size),h.pk.ag hb,aF h.er hb,h.shp.ag hb,h.JD.ag hb,⟨a,c,hl.ag hb⟩,fun k h4 h11=>oM.ag (h.box k h4 h11) hb,fun M hM=>(h.rows M hM).step (M':=[]) (ak.aK hb) (fun _ hx=>by cases hx) (fun x hx=>.inl hx)⟩
theorem vE.OQ{w:World}{p:Pk}{h:H3}{M:List Nat}(k:vE w p h M):p.In w h:=⟨k.lw.eM,k.lc.eM,k.lf.eM⟩
theorem MJ(a:Option Addr)(n c:Nat)(s:List UInt8)(w:World)(hrow:ax w a n c (bs s))(hn:n<=65536):Calls prog 57 #[.slice a n c] w (ZY s w):=by
 have wA:∀(fn:Fn)(first cap:Array Value)(w:World),(Instr.makeFunc fn first cap).run prog w=.ok (.func fn first cap) w:=fun _ _ _ _=>rfl;have CM:=af qN;have hl:s.length=n:=by have:=hrow.len;rw[cV]at this;exact this
 obtain⟨W0,hW0⟩:=ae (w.alloc (.cells #[.int .i64 0,.bool false,.bool false,.int .i64 0,.string ⟨#[]⟩,.string ⟨#[]⟩,.int .i64 0,.string ⟨#[]⟩,.bool false,.int .i64 0,.bool false,.string ⟨#[]⟩,.string ⟨#[]⟩,.int .i64 0,.bool false,.bool false,.bool false,.string ⟨#[]⟩,.string ⟨#[]⟩,.bool false,.int .i64 0,.slice none 0 0,.slice none 0 0,.slice none 0 0] 52));have s0:W0.heap.size=w.heap.size+1:=by rw[<-hW0];simp
 obtain⟨W1,hW1⟩:=ae (W0.alloc (.cells #[.int .i64 0] 31));have s1:W1.heap.size=w.heap.size+2:=by rw[<-hW1];simp;omega
 have b0:Below w.heap.size w W0:=by rw[<-hW0];exact ai.alloc ah _
 have b1:Below w.heap.size w W1:=by rw[<-hW1];exact b0.alloc b0.size _
 have p1:ar W1 w.heap.size bF 52:=by rw[<-hW1,<-hW0];exact(ar.new _ _ _).alloc _
 have e1:Boxed W1 (w.heap.size+1) 31 (.int .i64 0):=by have:=Boxed.new W0 31 (.int .i64 0);rw[hW1,s0]at this;exact this
 have P1:=af p1;have E1:=af e1;have B1:=af b1;have HR:=af (hrow.ag b1);have ZZ:=af (fun W (hb:Below w.heap.size w W)=>hrow.ag hb);have HL:=af hl;clear p1 e1 b1 b0 hrow hl;by_cases h2:2<=n
 ·have d:decide (2<=(n:Int))=true:=decide_eq_true (by omega);obtain⟨x0,r,hs⟩:∃x r,s=x::r:=by
   cases s with
   | nil=>have:=HL.out;simp at this;omega
   | cons x r=>exact⟨x,r,rfl⟩
  have uj:Hid (r.length+1=n):=af (by rw[<-HL.out,hs];rfl);have Vf:ax W1 (eJ a c 1) (n-1) (c-1) (bs r):=by have h9:=HR.from (i:=1) (by omega);rw[show(bs s).drop 1=bs r by rw[hs];simp[bs]]at h9;exact h9
  have hcut:=fun W=>ck Tryz.fP Tryz.xh a n c (1:Int) 1 rfl (by omega) W;have CL:=af (JS _ _ _ r W1 Vf);have Vl:Hid (bg s=if (bS r).2.2=0/\(bS r).2.1≠0/\(r.length:Int)-(bS r).2.1=(bS r).1 then(cj ((x0.toNat / 16:Nat):Int) (x0.toNat%16) (r.drop (bS r).2.1.toNat)).bind fun x=>if x.2=[]/\cE x.1=x0.toNat%16/\aZ x.1 then some x.1 else none else none):=af (by rw[hs];rfl);obtain⟨rn,ZT⟩:=ae ((bS r).1);obtain⟨rs,Pw⟩:=ae ((bS r).2.1);obtain⟨re,Z9⟩:=ae ((bS r).2.2);rw[ZT,Pw,Z9]at CL Vl;replace ZT:=af ZT;replace Pw:=af Pw;replace Z9:=af Z9;replace hs:=af hs;clear Vf;go_enter_defers func57,ntmps57;go_wp2_with (go_at_call 95;refine(CM _ _).mono ?_;rintro e w2 ⟨rfl,rfl⟩)
  refine CL.mono ?_;rintro e w2 ⟨rfl,hb2⟩;have P2:=af (P1.ag hb2);have E2:=aF E1.out hb2;have B2:=af (B1.trans (hb2.mono B1.size));have k2:=E2.cell;have f2:=E2.frozen;have E2:=af E2;clear hb2;go_upto_region 4 with fail;have Px:ak [w.heap.size+1] w2 (w2.setCell ⟨w.heap.size+1,0,none⟩ (.int .i64 re)):=ak.setCell w2 _ (by simp) _;obtain⟨w3,hw3⟩:=ae (w2.setCell ⟨w.heap.size+1,0,none⟩ (.int .i64 re));have E3:Boxed w3 (w.heap.size+1) 31 (.int .i64 re):=by rw[<-hw3];exact E2.set _
  rw[hw3]at Px ⊢;have P3:=af (P2.aw Px (by simp));have B3:=af (B2.trans (Px.ag B2.size (by simp)));have k3:=E3.cell;have E3:=af E3;have R3:=af (HR.ag (((Below.refl W1.heap.size W1)).trans ai));clear hw3 Px k2 f2 P2 E2 B2;by_cases h0:re=0
  ·subst h0;by_cases h1:rs=0
   ·have hno:Hid (bg s=none):=af (by rw[Vl.out,if_neg (by omega)]);have d1:decide (0<rs)=false:=decide_eq_false (by omega);go_wp2_with (go_at_call 95;refine(CM _ _).mono ?_;rintro e w4 ⟨rfl,rfl⟩)
    have gP:=P3.out;have gE:=E3.out;have gB:=B3.out;have gN:=hno.out;exact cT
   obtain ⟨m,Jq,kg,ow,I9,OC⟩:=vq (l:=r) (by rw[Z9.out]) (by rw[Pw.out];exact h1);have Oi:=nX (m:Int);obtain⟨sz,hsz⟩:=ae (bR (m:Int));rw[hsz]at ow I9 OC Oi;have D5:rs=(sz:Int):=by rw[<-Pw.out,ow]
   have d1:decide (0<rs)=true:=decide_eq_true (by omega);have QG:0<rs/\rs<=4:=by omega
   by_cases h3:(n:Int)-1-rs=rn
   ·have cq:Hid (bg s=(cj ((x0.toNat / 16:Nat):Int) (x0.toNat%16) (r.drop rs.toNat)).bind fun x=>if x.2=[]/\cE x.1=x0.toNat%16/\aZ x.1 then some x.1 else none):=af (by rw[Vl.out,if_pos ⟨rfl,h1,by have:=uj.out;omega⟩]);have hb0:=QG.1;have hb4:=QG.2;have d3:((n:Int)-1-rs==rn)=true:=by simpa using h3
    replace Jq:=af Jq;replace OC:=af OC;replace D5:=af D5;obtain⟨bb,off,ha,hcell⟩:=(ZZ w3 B3.out).byte (show 0<n by omega);have Ew:w3.cell? ⟨bb,off+0,none⟩=some (.int .u8 ((x0.toNat:Nat):Int)):=by
     have e9:s[0]?.getD 0=x0:=by rw[hs.out];rfl
     rw[e9]at hcell;exact hcell
    obtain⟨xz,ki⟩:=ae (((x0.toNat:Nat):Int):Int);have hx0:0<=xz:=by omega
    have hx1:xz<256:=by have:=x0.toNat_lt;omega
    rw[ki]at Ew;replace ki:=af ki;subst ha;simp only[Nat.add_zero]at Ew;clear QG kg ow I9 hsz Oi Vl hcell h3;go_upto_region 5 with(go_at_call 95;refine(CM _ _).mono ?_;rintro e w4 ⟨rfl,rfl⟩);have CS:=af (lD w3);go_upto_region 6 with fail
    go_wp2_with fail
    refine CS.mono ?_;rintro e w4 ⟨m4,b,rfl,⟨I9,Jv⟩,hb4⟩;obtain⟨g1,g2,g3,g4,g5,hg,aV,hsome⟩:=jW b (xz / 16);have hlk:=qQ I9 (xz / 16) true;rw[hg]at hlk;obtain⟨is,kO⟩:=ae ((cS b (xz / 16)).isSome);rw[kO,if_pos rfl]at hlk;have P4:=af (P3.ag hb4);have E4:=af (aF E3.out hb4);have B4:=af (B3.trans (hb4.mono B3.size));have HC4:=af Jv;have aV:=af aV;have hsome:=af hsome;have kO:=af kO;have hg:=af hg;have Ol:Hid (w.heap.size+1<w4.heap.size):=af E4.lt;clear hb4 Jv I9 k3 Ew;go_upto_region 7 with(refine wS 150 5 rfl _ _ #[g1,g2,g3,g4,g5] rfl rfl (ar.new _ _ _) rfl (by rfl) aV.out ?_;intro w5 eo fh);have b5:Below w4.heap.size w4 w5:=(ai.alloc ah _).trans (fh.ag (by simp) (by simp));have P5:=af (P4.ag b5);have E5:=af (aF E4.out b5);have B5:=af (B4.trans (b5.mono B4.size));have HC5:Hid (∀k,4<=k->k<=11->kQ b k w5):=af fun k h4 h11=>oM.ag (HC4 k h4 h11) b5;have G5:=af eo;have hs5:w4.heap.size+1<=w5.heap.size:=by have:=fh.size;simp at this;omega
    clear fh b5 eo hlk P4 E4 HC4 P3 E3;try simp only[PT]
    have hkx:Hid (((x0.toNat / 16:Nat):Int)=xz / 16):=af (by rw[<-ki.out];omega);rw[hkx]at cq;cases is with
    | false=>
     have hno:Hid (bg s=none):=af (by
      have ZG:=nG (Option.isNone_iff_eq_none.1 (Option.isSome_eq_false_iff.1 kO.out));rw[cq.out];cases h:cj (xz / 16) (x0.toNat%16) (r.drop rs.toNat)with
      | none=>rfl
      |some x=>obtain⟨y,t⟩:=x;simp only[Option.bind_some];rw[if_neg];rintro⟨h1,h2,h3⟩;subst h1;have h4:=(u7 h).2;have h5:=dH h3;rw[h4]at h5;exact ZG h5)
     go_wp2_with (go_at_call 95;refine(CM _ _).mono ?_;rintro e w6 ⟨rfl,rfl⟩)
     have gP:=P5.out;have gE:=E5.out;have gB:=B5.out;have gN:=hno.out;exact cT
    | true=>
     obtain⟨nn,hnn,Yj,hv⟩:=nH (hsome kO.out);obtain⟨UZ,VY,ZQ,g4',g5',hv',oN⟩:=XX b nn Yj;rw[hv]at hv';simp only[Value.agg.injEq,Array.mk.injEq,List.cons.injEq,and_true]at hv';obtain⟨rfl,rfl,rfl,rfl,rfl⟩:=hv';have oN:=af oN;have hnn:=af hnn;have HV:Hid (dg b nn=.agg #[g1,g2,g3,g4,g5]):=af hv;clear hv hg;go_upto_region 8 with(go_at_call 95;refine(CM _ _).mono ?_;rintro e w6 ⟨rfl,rfl⟩);have acF:sz<=r.length:=OC.out;have acG:=D5.out;have A4:=fun W=>ck Tryz.fP Tryz.xh (some ⟨bb,off,none⟩) n c (1+rs) (1+sz) (by omega) (by have:=uj.out;omega) W;have Xy:=(ZZ w5 B5.out).from (i:=1+sz) (by have:=uj.out;omega);rw[show(bs s).drop (1+sz)=bs (r.drop sz) by rw[hs.out];unfold bs;rw[<-List.map_drop];simp[Nat.add_comm]]at Xy;have CN:=af (m9 _ _ _ (r.drop sz) w5 Xy (by omega));clear acG acF Xy;go_wp2_with fail;refine CN.mono ?_;rintro e w6 ⟨q,rfl,hq,R6,fj⟩;have QU:Hid (w.heap.size+1<q):=af (by have:=E5.lt;omega);have Vm:Hid (q<w6.heap.size):=af R6.lt;have P6:=af (P5.ag fj);have E6:=af (aF E5.out fj);have B6:=af (B5.trans (fj.mono B5.size));have HC6:Hid (∀k,4<=k->k<=11->kQ b k w6):=af fun k h4 h11=>oM.ag (HC5 k h4 h11) fj;have G6:=af (G5.ag fj);have Yk:Hid (∀v∈#[Value.pointer (some ⟨q,0,none⟩)].toList,v.oneCell'=true):=af (by simp[Value.oneCell']);have R6:=af R6;have Lg:=af hq;have zl:=fj.size
     have Yl:=af HC5.out;clear fj P5 E5 HC5 A4 hcut hq;go_upto_region 9 with(refine wS 161 1 rfl _ _ #[.pointer (some ⟨q,0,none⟩)] rfl rfl (ar.new _ _ _) rfl (by rfl) Yk.out ?_;intro w7 gZ gD);have b7:Below w6.heap.size w6 w7:=(ai.alloc ah _).trans (gD.ag (by simp) (by simp));have P7:=P6.ag b7;have E7:=aF E6.out b7;have B7:=B6.trans (b7.mono B6.size);have HC7:∀k,4<=k->k<=11->kQ b k w7:=fun k h4 h11=>oM.ag (HC6 k h4 h11) b7;have G7:=G6.ag b7;have R7:=R6.ag b7;have hqb:Hid (∀k,4<=k->k<=11->b k+4≠q):=af fun k h4 h11 e=>by have h9:=(Yl k h4 h11).rd.lt;have:=Lg.out;omega
     obtain⟨ff,fc,rfl,Gl,hrc⟩:=oN.out;have hrc:=af hrc;have xc7:w7.cell? ⟨bb,off,none⟩=some (.int .u8 xz):=by
      obtain⟨b2,o2,e2,hc2⟩:=(ZZ w7 B7).byte (show 0<n by omega);cases e2;have e9:s[0]?.getD 0=x0:=by rw[hs.out];rfl
      rw[e9,ki.out]at hc2;simpa using hc2
     have ZL:=b7.size;clear gD b7 P6 E6 HC6 G6 R6;try simp only[PT]
     have bD:Below w7.heap.size w7 w7.drew:=ai.drew;have P8:=P7.ag bD;have E8:=aF E7 bD;have B8:=B7.trans (bD.mono B7.size);have G8:=G7.ag bD;have R8:=R7.ag bD;have X8:=gZ.ag bD;have c8:w7.drew.cell? ⟨bb,off,none⟩=some (.int .u8 xz):=xc7;have HC8:∀k,4<=k->k<=11->kQ b k w7.drew:=fun k h4 h11=>oM.ag (HC7 k h4 h11) bD;refine JW [(1000,fun w'=>ar w' w4.heap.size #[g1,g2,g3,g4,bG ff fc] 150),(1000,fun w'=>ar w' w6.heap.size #[.pointer (some ⟨q,0,none⟩)] 161),(1000,fun w'=>w'.cell? ⟨bb,off,none⟩=some (.int .u8 xz))] ?_ (by kernel_rfl) ⟨G8,X8,c8,trivial⟩ fun KQ aL=>?_
     ·intro i oi hi c aa vv ww hh;have hd:=MI hi (by kernel_rfl);clear hi;obtain⟨dst,_,_,_,_,_⟩:=oi;cases dst with
      | none=>exact hh
      |some d=>have h2:d≠2:=fun e=>hd.1 (by rw[e]);have h3:d≠3:=fun e=>hd.2 (by rw[e]);refine(qT ?_ _ _ _).mp hh;simp[results,results57,Act.put,h2,h3]
     try simp only[PT]
     obtain⟨WD,di⟩:=ae w7.drew;rw[di]at P8 E8 B8 G8 R8 X8 HC8 ⊢;refine tQ [0] ?_;refine aG 1 rfl (by kernel_rfl) (by kernel_rfl) rfl rfl 0 rfl (by kernel_rfl) (.func (.func ff) #[] fc) (fun w' hf=>by(have k0:=hf.cell 4;unfold bG at k0;go_simp<;>with_reducible rfl)) ?_;simp only[PT];refine aG 2 rfl (by kernel_rfl) (by kernel_rfl) rfl rfl 1 rfl (by kernel_rfl) (.agg #[.pointer (some ⟨q,0,none⟩)]) (fun w' hf=>by(exact aM hf 161 underlying161 rfl (by kernel_rfl))) ?_;simp only[PT];have MK:bits .and .u8 xz 15=((x0.toNat%16:Nat):Int):=by rw[<-ki.out];exact Iz _ x0.toNat_lt
     obtain⟨fz,hfz⟩:=ae (((x0.toNat%16:Nat):Int):Int);rw[hfz]at MK;have acv:0<=fz:=by omega
     have acw:fz<16:=by omega
     refine tQ [3,4] ?_;refine aG 5 rfl (by kernel_rfl) (by kernel_rfl) rfl rfl 2 rfl (by kernel_rfl) (.int .u8 xz) (fun w' hf=>by(have k0:=hf;go_simp<;>with_reducible rfl)) ?_;simp only[PT];refine tQ [6,7] ?_;have CR:=hrc WD _ q (r.drop sz) (x0.toNat%16) (Nat.mod_lt _ (by decide)) (fun h4 h11=>HC8 nn h4 h11) (fun h4 h11=>hqb.out nn h4 h11) R8 (by simp;have:=uj.out;omega);rw[hfz]at CR;replace hfz:=af hfz;have Uh:=af MK;refine sQ 8 fun K hK=>?_;simp only[GO];unfold gY at Gl;go_simp;refine CR.mono ?_;rintro e w9 ⟨cC,⟨hno,rfl⟩ | ⟨y,hh,r2,Gs,rfl,R9,hN9⟩⟩
     ·have LO:Hid (bg s=none):=af (by rw[cq.out,hnn.out,D5.out,Int.toNat_natCast,hno];rfl);have oF:=QU.out;have P9:=P8.aw cC (by simp;omega);have E9:=cC.boxed (by simp;omega) E8;have B9:=B8.trans (cC.ag B8.size (by simp;omega));refine aL.out _ _ _ ?_;have gP:=P9;have gE:=E9;have gB:=B9;have gN:=LO.out;exact cT
     have oF:=QU.out;have hq6:=Vm.out;have ahX:=Lg.out;have qX:Hid (bg s=if r2=[]/\cE ({y with kind:=(nn:Int)}:Pk)=x0.toNat%16/\aZ ({y with kind:=(nn:Int)}:Pk)then some ({y with kind:=(nn:Int)}:Pk)else none):=af (by rw[cq.out,hnn.out,D5.out,Int.toNat_natCast,Gs];rfl);have hsm:=kG Gs (by simp;have:=uj.out;omega);have P9:=P8.aw cC (by simp;omega);have E9:=cC.boxed (by simp;omega) E8;have B9:=B8.trans (cC.ag B8.size (by simp;omega));have G9:=G8.aw cC (by simp;omega);have X9:=X8.aw cC (by simp;omega);have xc:Hid (∀W,Below w.heap.size w W->W.cell? ⟨bb,off,none⟩=some (.int .u8 xz)):=af fun W hb=>by
      obtain⟨b2,o2,e2,hc2⟩:=(ZZ W hb).byte (show 0<n by omega);cases e2;have e9:s[0]?.getD 0=x0:=by rw[hs.out];rfl
      rw[e9,ki.out]at hc2;simpa using hc2
     have HC9:∀k,4<=k->k<=11->kQ b k w9:=fun k h4 h11=>by have h9:=(Yl k h4 h11).rd.lt;exact oM.wrote (HC8 k h4 h11) cC (by simp;omega) (by simp;omega) (by simp;omega) (by simp;omega) (by simp;omega)
     have Gs:=af Gs;have hsm:=af hsm;have hwd:Hid (w.heap.size+1<WD.heap.size):=af E8.lt;have acJ:Hid (∀k,4<=k->k<=11->b k≠w.heap.size/\b k+1≠w.heap.size/\b k+2≠w.heap.size/\b k+3≠w.heap.size/\b k+4≠w.heap.size):=af fun k h4 h11=>by have x:=HC9 k h4 h11;exact⟨kU P9 x.fl,kU P9 x.has,kU P9 x.may,kU P9 x.wr,kU P9 x.rd⟩
     refine hK _ _ ⟨⟨fun _=>G9,fun _=>X9,fun _=>xc.out _ B9,trivial⟩,?_⟩;clear hK K CR;try simp only[PT]
     refine sQ 9 fun K hK=>?_;simp only[GO];refine wW 52 24 rfl w.heap.size bF (y.cells hh).toArray rfl rfl P9 rfl rfl (Pk.one y hh) fun FD jq ik=>?_;have E10:=ik.boxed (by simp) E9;have Yb:=B9.trans (ik.ag B9.size (by simp));have Wy:=Ol.out;have G10:=G9.aw ik (by simp;omega);have X10:=X9.aw ik (by simp;omega);obtain⟨⟨a9,n9,c9,K9,dN, -, -⟩, -, -⟩:=R9;have FQ:Hid (r2.length=n9):=af (by have:=dN.len;rwa [cV]at this);have K10:=K9.aw ik (by simp;omega);have Ym:∀k,4<=k->k<=11->kQ b k FD:=fun k h4 h11=>by have x:=HC9 k h4 h11;exact oM.wrote x ik (by simpa using kU P9 x.fl) (by simpa using kU P9 x.has) (by simpa using kU P9 x.may) (by simpa using kU P9 x.wr) (by simpa using kU P9 x.rd)
     refine hK _ _ ⟨⟨fun _=>G10,fun _=>X10,fun _=>xc.out _ Yb,trivial⟩,?_⟩;clear hK K;try simp only[PT]
     refine dQ (aL.out _ _ _ ?_);clear aL KQ;obtain⟨z,hz⟩:∃z:Pk,{y with kind:=(nn:Int)}=z:=⟨_,rfl⟩;rw[hz]at qX hsm;have hzk:z.kind=(nn:Int):=by rw[<-hz]
     have hZ9:Hid (∀M,(∀b∈M,b<WD.heap.size)->vE w9 z hh M):=af (by rw[<-hz];exact fun M hM=>⟨(hN9 M hM).lw,(hN9 M hM).lc,(hN9 M hM).lf⟩);have iU:(y.cells hh).toArray.setIfInBounds 0 (.int .i64 (nn:Int))=(z.cells hh).toArray:=by rw[<-hz];rfl
     obtain⟨UZ,VY,ZQ,g4',g5',hv',mK⟩:=Yf b nn Yj;rw[HV]at hv';simp only[Value.agg.injEq,Array.mk.injEq,List.cons.injEq,and_true]at hv';obtain⟨rfl,rfl,rfl,rfl, -⟩:=hv';have Yn:=af E10;have Bv:Hid ((z.cells hh).toArray.size=24):=af rfl;have CK:=af (fun W (cd:z.In W hh)=>vJ z hh hsm.1 ⟨hsm.1.wants,hsm.1.filters⟩ W cd);obtain⟨pc,bt⟩:=ae ((z.cells hh).toArray);rw[bt]at iU Bv CK;have ic:Hid ((prog.info? 52).map (·.size)=some pc.size):=af (by rw[Bv];kernel_rfl);have Ui:=af Yb;have Yo:=af G10;have Yp:=af X10;have Yq:=af K10;have Q7:=af Ym;have Q8:=af ik;clear E10 Yb G10 X10 K10 Ym ik P9 E9 B9 G9 X9 HC9 K9 dN hN9 hz G8 X8 c8 R8 P8 E8 B8 HC8 cC;go_upto_region 12 with(refine aq rfl 45 52 _ _ rfl (fun w=>by kernel_rfl) w.heap.size 0 _ _ rfl rfl jq (by exact(by decide:0<24)) rfl rfl ?_;intro wO Ja fZ);replace Ja:ar wO w.heap.size ((y.cells hh).toArray.setIfInBounds 0 (.int .i64 (nn:Int))) 52:=Ja;rw[iU]at Ja;have HT:Yi w pc z hh w4.heap.size w6.heap.size q #[g1,g2,g3,g4,bG ff fc] b n9 wO:=by
      have hw2:=Q8.trans fZ;have ahZ:=Ol.out;exact⟨Ui.trans (fZ.ag Ui.size (by simp)),Ja,fZ.boxed (by simp) Yn.out,Yo.aw fZ (by simp;omega),Yp.aw fZ (by simp;omega),⟨a9,c9,Yq.aw fZ (by simp;omega)⟩,
       fun k h4 h11=>by obtain⟨b0,b1,b2,b3,b4⟩:=acJ k h4 h11;exact oM.wrote (Q7 k h4 h11) fZ (by simpa using b0) (by simpa using b1) (by simpa using b2) (by simpa using b3) (by simpa using b4),
       fun M hM=>(hZ9 (w.heap.size::M) (fun b hb=>by
        have:=hwd.out;rcases List.mem_cons.1 hb with rfl | hb
        ·omega
        have:=hM b hb;omega)).step hw2 (fun x hx=>.inl (by simp at hx;simp[hx])) (fun x hx=>.inl (List.mem_cons_of_mem _ hx))⟩
     replace HT:=af HT;have k2:wO.cell? ⟨w4.heap.size,2,none⟩=some g3:=HT.shp.cell 2;clear Ja fZ jq Yn Ui Yo Yp Yq Q7 Q8 iU;obtain⟨gz,Vn⟩:=ae (((cE z:Nat):Int):Int);obtain⟨nb,sZ,ze,vK⟩:∃nb:Bool,(∀W,(binOp .neq 146 g3 .nilFunc).run prog W=.ok (.bool nb) W)/\(∀s1 s2 W,(eqGuard .neq 146 s1 s2 g3 .nilFunc).run prog W=.ok () W)/\((nb=false/\gz=0)\/(nb=true/\∃f c,g3=bG f c/\gY f/\∀W,km b nn W->Calls prog f (#[.agg pc]++c) W fun e w'=>e=.returned (.int .i64 gz)/\Below W.heap.size W w')):=by
      rcases mK with⟨rfl,zf⟩ | ⟨f3,c3,rfl,Uj,Py⟩
      ·exact⟨false,Mw,Gj,.inl ⟨rfl,by rw[<-Vn,zf z hzk];rfl⟩⟩
      refine⟨true,fun W=>Gi f3 c3 W,fun s1 s2 W=>Bq f3 c3 s1 s2 W,.inr ⟨rfl,f3,c3,rfl,Uj,fun W ey=>?_⟩⟩;have:=Py W z hh hzk (fun h3=>by have h9:=hsm.2 h3;exact h9) ey
      rw[bt,Vn]at this;exact this
     have vK:=af vK;have Vn:=af Vn;clear mK;replace bt:=af bt;go_upto_if 71 with fail;try simp only[PT]
     have sZ:=af sZ;have ze:=af ze;go_cut [10]from 76 (fun Xj wx=>Xj=.int .i64 gz/\Hid (Yi w pc z hh w4.heap.size w6.heap.size q #[g1,g2,g3,g4,bG ff fc] b n9 wx))
     case first=>
      have sZ:=sZ.out;have ze:=ze.out;rcases vK.out with⟨rfl,zf⟩ | ⟨rfl,f3,c3,rfl,Uj,Py⟩
      ·subst zf;go_wp2_with fail
       go_meet
       case rel=>exact⟨rfl,HT⟩
      unfold bG at k2;unfold gY at Uj;have CF:=af (Py wO (fun h4 h11=>HT.box _ h4 h11));have ta:=HT.pk;have tok:=af trivial;clear vK Py sZ ze;go_wp2_with (clear tok;refine wL 52 rfl rfl ta underlying52 ?_ rfl rfl ic.out);refine CF.mono ?_;rintro e FE ⟨rfl,nr⟩;have acM:=af (HT.step nr);clear nr ta k2;go_wp2_with fail;go_meet
      case rel=>exact⟨rfl,acM⟩
     case rest=>
      obtain⟨rfl,HK⟩:=hcut;obtain⟨wa,sM⟩:=ae wc;rw[sM]at HK ⊢;clear sM k2 sZ ze vK HT Gl;obtain⟨la,lc,Q9⟩:=HK.out.left;have CL:=af (Ev Q9);have k6:wa.cell? ⟨w6.heap.size,0,none⟩=some (.pointer (some ⟨q,0,none⟩)):=HK.out.JD.cell 0;have kx:wa.cell? ⟨bb,off,none⟩=some (.int .u8 xz):=xc _ HK.out.ag;have MK:=Uh.out;clear Q9;by_cases h9:n9=0
      ·have d9:((n9:Int)==0)=true:=by rw[h9];rfl
       by_cases Re:gz=fz
       ·have dfe:(gz==fz)=true:=by simpa using Re
        have CKx:=CK wa (HK.out.rows [] (by simp)).OQ;have CKx:=af CKx;have ta:=HK.out.pk;have tok:=af trivial;go_wp2_with (first
         | (go_at_call 25;refine CL.mono ?_;rintro e FE ⟨rfl,rfl⟩)
         | (clear tok;refine LG 52 rfl rfl ta underlying52 rfl ?_ ic.out))
        refine CKx.mono ?_;rintro e zm ⟨cz,rfl,dR,wP⟩;have Bw:=af (HK.out.step wP);have dR:=af dR;clear wP ta k6 kx CL CKx;by_cases hc0:cz=0
        ·have dc:(cz==0)=true:=by simpa using hc0
         have aV:=af (show∀v∈pc.toList,v.oneCell'=true by rw[<-bt.out];exact Pk.one z hh);have jE:Hid (bg s=some z):=af (by rw[qX.out,if_pos ⟨List.eq_nil_of_length_eq_zero (by rw[FQ];exact h9),by have:=Vn.out;have:=hfz.out;omega,dR.1 hc0⟩])
         have tb:=Bw.pk;clear dR;go_wp2_with (first
          | (go_at_call 95;refine(CM _ _).mono ?_;rintro e Er ⟨rfl,rfl⟩)
          | (refine wL 52 rfl rfl tb underlying52 ?_ rfl rfl ic.out)
          | (refine wS 52 24 rfl w.heap.size pc pc rfl rfl tb Bv.out Bv.out aV.out ?_;intro Er vH Uk;have E14:=Uk.boxed (by simp) Bw.er;have Cj:=E14.cell;have f14:=E14.frozen))
         have Ul:ak [w.heap.size+1] Er (Er.setCell ⟨w.heap.size+1,0,none⟩ (.int .i64 0)):=ak.setCell Er _ (by simp) _;have P15:=vH.aw Ul (by simp);have E15:=E14.set (.int .i64 0);have B14:=Bw.ag.trans (Uk.ag Bw.ag.size (by simp));have B15:=B14.trans (Ul.ag B14.size (by simp));have hall:ak [w.heap.size,w.heap.size+1] zm (Er.setCell ⟨w.heap.size+1,0,none⟩ (.int .i64 0)):=(Uk.sub (by simp)).trans (Ul.sub (by simp));obtain⟨Q1,Et⟩:=ae (Er.setCell ⟨w.heap.size+1,0,none⟩ (.int .i64 0));rw[Et]at P15 E15 B15 hall ⊢;refine leaves_cons (f:=94) (args:=#[.pointer (some ⟨w.heap.size,0,none⟩),.pointer (some ⟨w.heap.size+1,0,none⟩)]) (by simp) (by simp[go_sem]) ?_;refine(MD _ _ Q1).mono ?_;rintro e u' w16 ⟨rfl,rfl,rfl⟩;simp only[Leaves,settle,List.dropWhile];have yC:=E15.cell;have f16:=aj P15 52 underlying52 rfl ic.out;refine⟨_,uO (v:=.agg pc) (x:=.int .i64 0) results57 rfl rfl f16 (by simp[go_sem,yC,loadVar]),?_⟩;refine⟨B15,z,hh,0,by rw[bt.out],.inl ⟨rfl,jE.out⟩,fun M hM=>?_⟩;exact(Bw.rows (w.heap.size::(w.heap.size+1)::M) (fun y hy=>by
          rcases List.mem_cons.1 hy with rfl | hy
          ·omega
          rcases List.mem_cons.1 hy with rfl | hy
          ·omega
          have:=hM y hy;omega)).step hall (fun x hx=>.inl (by simp at hx;rcases hx with rfl | rfl<;>simp)) (fun x hx=>.inl (List.mem_cons_of_mem _ (List.mem_cons_of_mem _ hx)))
        have dc:(cz==0)=false:=by simpa using hc0
        have hno:Hid (bg s=none):=af (by rw[qX.out,if_neg (fun h=>hc0 (dR.2 h.2.2))]);clear dR;go_wp2_with (go_at_call 95;refine(CM _ _).mono ?_;rintro e Er ⟨rfl,rfl⟩);have gP:=Bw.pk;have gE:=Bw.er;have gB:=Bw.ag;have gN:=hno.out;exact cT
       have dfe:(gz==fz)=false:=by simpa using Re
       have hno:Hid (bg s=none):=af (by rw[qX.out,if_neg (fun h=>Re (by have:=Vn.out;have:=hfz.out;have:=h.2.1;omega))]);go_wp2_with (first
        | (go_at_call 25;refine CL.mono ?_;rintro e FE ⟨rfl,rfl⟩)
        | (go_at_call 95;refine(CM _ _).mono ?_;rintro e Er ⟨rfl,rfl⟩))
       have gP:=HK.out.pk;have gE:=HK.out.er;have gB:=HK.out.ag;have gN:=hno.out;exact cT
      have d9:((n9:Int)==0)=false:=by simpa using h9
      have hno:Hid (bg s=none):=af (by rw[qX.out,if_neg (fun h=>h9 (by rw[<-FQ,h.1];rfl))]);go_wp2_with (first
       | (go_at_call 25;refine CL.mono ?_;rintro e FE ⟨rfl,rfl⟩)
       | (go_at_call 95;refine(CM _ _).mono ?_;rintro e Er ⟨rfl,rfl⟩))
      have gP:=HK.out.pk;have gE:=HK.out.er;have gB:=HK.out.ag;have gN:=hno.out;exact cT
   have hno:Hid (bg s=none):=af (by rw[Vl.out,if_neg (fun h=>h3 (by have:=uj.out;omega))]);have hb0:=QG.1;have hb4:=QG.2;have d3:((n:Int)-1-rs==rn)=false:=by simpa using h3
   have Jq:=af Jq;clear QG D5 kg ow I9 OC hsz Oi h3;go_wp2_with (go_at_call 95;refine(CM _ _).mono ?_;rintro e w4 ⟨rfl,rfl⟩);have gP:=P3.out;have gE:=E3.out;have gB:=B3.out;have gN:=hno.out;exact cT
  have hno:Hid (bg s=none):=af (by rw[Vl.out,if_neg (fun h=>h0 h.1)]);have d0:(re==0)=false:=by simpa using h0
  go_wp2_with (go_at_call 95;refine(CM _ _).mono ?_;rintro e w4 ⟨rfl,rfl⟩)
  have gP:=P3.out;have gE:=E3.out;have gB:=B3.out;have gN:=hno.out;exact cT
 have d:decide (2<=(n:Int))=false:=decide_eq_false (by omega);have hno:Hid (bg s=none):=af (by
  have:=HL.out
  match s,this with
  | [],_=>rfl
  | [x],_=>rfl
  | x::y::r,h=>simp at h;omega)
 go_enter_defers func57,ntmps57
 go_wp2_with (go_at_call 95;refine(CM _ _).mono ?_;rintro e w2 ⟨rfl,rfl⟩)
 have gP:=P1.out;have gE:=E1.out;have gB:=B1.out;have gN:=hno.out;exact cT
theorem Ex:rR fR:=fun W a n c s hrow hn=>(MJ a n c s W hrow hn).mono fun e w' h=>⟨h.ag,h.out⟩
end
theorem Gt(x:dE)(h:x.t.kind=2->yT x.t.pk):np x:=Ig x fun h2=>vJ x.t.pk x.h (h h2) ⟨(h h2).wants,(h h2).filters⟩
theorem MO(x:dE)(w:World)(hx:x.t.In w x.h x.hp)(hr:eh x.t):jr fR w x:=DZ fR w x hx hr fun h2 W cd iq=>Ub x.t.pk x.h (fK iq) ⟨(fK iq).wants,(fK iq).filters⟩ W cd iq
theorem PC(k:Int):yL fR k:=II fR Ex k
theorem MP(s:lj)(w:World)(hs:s.In w)(hT:TzAt w)(hp:∀x∈s.ts,x.t.kind=2->yT x.t.pk):Calls prog 11 #[.agg s.cells.toArray] w (Tf fR s.sc w):=
 Ln fR s w hs hT (Eh s.cf) (fun x hx=>Gt x (hp x hx)) (fun hr x hx=>MO x w (hs.each x hx) (hr.2.2.2 x.t (List.mem_map_of_mem hx)))
theorem ED(a:Option Addr)(n c:Nat)(l:List UInt8)(w:World)(hrow:ax w a n c (bs l))(hn:n<=70368744177664)(hT:TzAt w):Calls prog 8 #[.slice a n c] w (A8 fR l w):=
 vG fR a n c l w hrow hn hT (fun s _=>Eh s.cf) (fun s hs x hx=>Gt x fun h2=>fK (pL hs x.t hx h2)) (fun _ k=>PC k)
end Go.Proofs.YtkghejaimhoboaaGreatDoor
