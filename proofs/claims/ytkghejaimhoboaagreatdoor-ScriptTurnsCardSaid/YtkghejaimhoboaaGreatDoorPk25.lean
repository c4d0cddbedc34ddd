/- Parts of the proof of ScriptTurns. -/
import Derived.Test.YtkghejaimhoboaaGreatDoorPk20
import Derived.Test.YtkghejaimhoboaaGreatDoorPk06
set_option linter.unusedSimpArgs false
set_option linter.unusedVariables false
set_option maxRecDepth 100000
set_option maxHeartbeats 8000000
namespace Go.Proofs.YtkghejaimhoboaaGreatDoor
open Go.RowKit Go.Shelf Go.Proofs.Tryz
section
attribute [local go_sem] Oper.semAt_some
def vy(z:Int):Bool:=decide (0<=z)&&decide (z<=65535)
theorem Lr(x:dE)(c:Nat)(W:World)(hc:Boxed W c 66 (bG 45 #[])):Calls prog 58 #[.agg x.cells.toArray,.pointer (some ⟨c,0,none⟩)] W (dD (vy x.t.conn&&decide (x.t.bytes.length<=10000)) W):=by
 obtain⟨xc,cR⟩:=ae x.cells.toArray;have hB:ar (W.alloc (.cells xc 55)) W.heap.size xc 55:=ar.new _ _ _;have hb:Below W.heap.size W (W.alloc (.cells xc 55)):=ai.alloc ah _;have ix:(prog.info? 55).map (·.size)=some xc.size:=by rw[<-cR];exact(by kernel_rfl:(prog.info? 55).map (·.size)=some 30)
 replace hb:=af hb;have hc1:=hc.alloc (.cells xc 55);have k0:=hc1.cell;unfold bG at k0;have CM:=af (ml x.t x.h x.hp (W.alloc (.cells xc 55)));rw[show(x.t.cells x.h x.hp).toArray=xc from cR]at CM;have kb:Hid (∀W',Below (W.alloc (.cells xc 55)).heap.size (W.alloc (.cells xc 55)) W'->W'.cell? ⟨W.heap.size,26,none⟩=some (.string ⟨x.t.bytes.toArray⟩)):=af fun W' h=>by rw[(hB.ag h).cell,<-cR];rfl
 have hsz:ByteArray.size ⟨x.t.bytes.toArray⟩=x.t.bytes.length:=by simp[ByteArray.size]
 obtain⟨m,hm⟩:=ae x.t.bytes.length;rw[hm]at hsz ⊢;obtain⟨bs,mF⟩:=ae ((⟨x.t.bytes.toArray⟩:ByteArray):ByteArray);rw[mF]at hsz kb;obtain⟨q,hq⟩:=ae (vy x.t.conn);rw[hq];replace hq:=af hq;rw[cR];clear cR hm mF hc hc1;go_enter func58,ntmps58;go_wp2_with (refine wL 55 rfl rfl hB underlying55 ?_ rfl rfl ix)
 refine CM.mono ?_;rintro e w1 ⟨rfl,hb1⟩;have OA:=kb w1 hb1;have gH:=af (hb.trans (hb1.mono hb.size));rw[show(decide (0<=x.t.conn)&&decide (x.t.conn<=65535))=q from hq.out];clear hb1 k0;cases q with
 |false=>
  go_wp2_with fail
  go_ret;exact⟨rfl,gH.out⟩
 | true=>
  by_cases h:m<=10000
  ·have d:decide ((m:Int)<=10000)=true:=decide_eq_true (by omega);go_wp2_with fail
   go_ret;exact⟨by simp[h],gH.out⟩
  have d:decide ((m:Int)<=10000)=false:=decide_eq_false (by omega);go_wp2_with fail
  go_ret;exact⟨by simp[h],gH.out⟩
theorem Ls(x:dE)(W:World):Calls prog 62 #[.agg x.cells.toArray] W (dD (decide (0<=x.t.arm)&&decide (x.t.arm<=2)&&decide (-1<=x.t.n)&&decide (x.t.n<65535)) W):=by
 obtain⟨xc,cR⟩:=ae x.cells.toArray;have hB:ar (W.alloc (.cells xc 55)) W.heap.size xc 55:=ar.new _ _ _;have hb:Below W.heap.size W (W.alloc (.cells xc 55)):=ai.alloc ah _;have ix:(prog.info? 55).map (·.size)=some xc.size:=by rw[<-cR];exact(by kernel_rfl:(prog.info? 55).map (·.size)=some 30)
 replace hb:=af hb;have Jt:(W.alloc (.cells xc 55)).cell? ⟨W.heap.size,27,none⟩=some (.int .i64 x.t.arm):=by rw[hB.cell,<-cR];rfl
 have Nn:(W.alloc (.cells xc 55)).cell? ⟨W.heap.size,28,none⟩=some (.int .i64 x.t.n):=by rw[hB.cell,<-cR];rfl
 obtain⟨u,hu⟩:=ae x.t.arm;obtain⟨v,hv⟩:=ae x.t.n;rw[hu]at Jt ⊢;rw[hv]at Nn ⊢;rw[cR];clear cR hB ix hu hv;by_cases h1:0<=u
 ·by_cases h2:u<=2
  ·by_cases h3: -1<=v
   ·by_cases h4:v<65535<;>
    ·go_enter func62,ntmps62;go_wp2_with fail
     go_ret;exact⟨by simp[h1,h2,h3,h4],hb.out⟩
   ·go_enter func62,ntmps62;go_wp2_with fail
    go_ret;exact⟨by(simp[h1,h2,h3];try omega),hb.out⟩
  go_enter func62,ntmps62;go_wp2_with fail
  go_ret;exact⟨by(simp[h1,h2];try omega),hb.out⟩
 go_enter func62,ntmps62;go_wp2_with fail
 go_ret;exact⟨by(simp[h1];try omega),hb.out⟩
theorem OT(z:Int)(w:World):Calls prog 69 #[.int .i64 z] w (dD (decide (z<0)||decide (255<z)) w):=by
 by_cases h1:z<0
 ·go_enter func69,ntmps69;go_wp2_with fail
  go_ret;exact⟨by simp[h1],Below.refl _ _⟩
 by_cases h2:255<z<;>
 ·go_enter func69,ntmps69;go_wp2_with fail
  go_ret;exact⟨by simp[h1,h2],Below.refl _ _⟩
theorem Lt(x:dE)(W:World)(hp:aW jD 1 W x.hp.a x.hp.n x.hp.c x.t.bf):Calls prog 67 #[.agg x.cells.toArray] W (dD (decide (x.t.bf.length<=255)&& !x.t.bf.any fun z=>decide (z<0)||decide (255<z)) W):=by
 obtain⟨xc,cR⟩:=ae x.cells.toArray;have hB:ar (W.alloc (.cells xc 55)) W.heap.size xc 55:=ar.new _ _ _;have hb:Below W.heap.size W (W.alloc (.cells xc 55)):=ai.alloc ah _;have ix:(prog.info? 55).map (·.size)=some xc.size:=by rw[<-cR];exact(by kernel_rfl:(prog.info? 55).map (·.size)=some 30)
 replace hb:=af hb;have Fx:(W.alloc (.cells xc 55)).cell? ⟨W.heap.size,29,none⟩=some (.slice x.hp.a x.hp.n x.hp.c):=by rw[hB.cell,<-cR];rfl
 have hf:=enters_of func69 (by kernel_rfl) rfl;have CA:=af (FK 69 #[] (fun z=>decide (z<0)||decide (255<z)) (hp.ag hb.out) hf (fun W' y _ _=>OT y W'));rw[hp.len];obtain⟨q,hq⟩:=ae (x.t.bf.any fun z=>decide (z<0)||decide (255<z));rw[hq]at CA ⊢;rw[cR];clear cR hB ix hq hp;by_cases h:x.hp.n<=255
 ·have d:decide ((x.hp.n:Int)<=255)=true:=decide_eq_true (by omega);go_enter func67,ntmps67;go_wp2_with fail
  refine CA.mono ?_;rintro e w1 ⟨rfl,hb1⟩;have gH:=af (hb.trans (hb1.mono hb.size));clear hb1;go_wp2_with fail;go_ret;exact⟨by simp[h],gH.out⟩
 have d:decide ((x.hp.n:Int)<=255)=false:=decide_eq_false (by omega);go_enter func67,ntmps67;go_wp2_with fail
 go_ret;exact⟨by simp[h],hb.out⟩
theorem aD.of{P:Prop}{b:Bool}(h:b=true↔P){w:World}{e:Ending}{w':World}(k:dD b w e w'):aD P w e w':=⟨b,k.out.1,h,k.out.2⟩
def tP(p:Pk)(h:H3):Prop:=∀W,p.In W h->Calls prog 51 #[.agg (p.cells h).toArray] W fun e w'=>∃z:Int,e=.returned (.int .i64 z)/\(z=0↔aZ p)/\Below W.heap.size W w'
theorem OU(x:dE)(c:Nat)(W:World)(hc:Boxed W c 66 (bG 45 #[]))(cd:x.t.In W x.h x.hp)(hP:tP x.t.pk x.h):
  Calls prog 50 #[.agg x.cells.toArray,.pointer (some ⟨c,0,none⟩)] W (aD (vy x.t.conn=true/\aZ x.t.pk) W):=by
 obtain⟨xc,cR⟩:=ae x.cells.toArray;have hB:ar (W.alloc (.cells xc 55)) W.heap.size xc 55:=ar.new _ _ _;have hb:Below W.heap.size W (W.alloc (.cells xc 55)):=ai.alloc ah _;have ix:(prog.info? 55).map (·.size)=some xc.size:=by rw[<-cR];exact(by kernel_rfl:(prog.info? 55).map (·.size)=some 30)
 replace hb:=af hb;have hc1:=hc.alloc (.cells xc 55);have k0:=hc1.cell;unfold bG at k0;have CM:=af (ml x.t x.h x.hp (W.alloc (.cells xc 55)));rw[show(x.t.cells x.h x.hp).toArray=xc from cR]at CM;have kb:Hid (∀W',Below (W.alloc (.cells xc 55)).heap.size (W.alloc (.cells xc 55)) W'->W'.rangeAt W.heap.size 2 (x.t.pk.cells x.h)):=af fun W' h=>by have h1:=hB.ag h;rw[<-cR]at h1;exact h1.mid [.int .i64 x.t.kind,.int .i64 x.t.conn] (x.t.pk.cells x.h) [.string ⟨x.t.bytes.toArray⟩,.int .i64 x.t.arm,.int .i64 x.t.n,.slice x.hp.a x.hp.n x.hp.c] (Tn.Ae x.t x.h x.hp)
 have HI:=af cd;have HP:=af hP;obtain⟨pc,bt⟩:=ae (x.t.pk.cells x.h);have hpl:Hid ((prog.info? 52).map (·.size)=some pc.length):=af (by rw[<-bt];exact(by kernel_rfl:(prog.info? 52).map (·.size)=some 24));rw[bt]at kb;obtain⟨q,hq⟩:=ae (vy x.t.conn);rw[hq];replace hq:=af hq;replace bt:=af bt;rw[cR];clear cR hc hc1 hP cd;go_enter func50,ntmps50;go_wp2_with (refine wL 55 rfl rfl hB underlying55 ?_ rfl rfl ix)
 refine CM.mono ?_;rintro e w1 ⟨rfl,hb1⟩;have kr:=kb w1 hb1;have gH:=af (hb.trans (hb1.mono hb.size));rw[show(decide (0<=x.t.conn)&&decide (x.t.conn<=65535))=q from hq.out];clear hb1 k0;cases q with
 |false=>
  go_wp2_with fail
  go_ret;exact aD.no (fun h=>by cases h.1) gH.out
 | true=>
  have CP:=af (HP w1 (HI.ag gH.out).pk);rw[bt.out]at CP;go_wp2_with (refine Ar 52 rfl rfl kr underlying52 ?_ (by kernel_rfl) rfl hpl.out)
  refine CP.mono ?_;rintro e w2 ⟨z,rfl,hz,hb2⟩;have rf:=af (gH.trans (hb2.mono gH.size));clear hb2 kr;by_cases h:z=0
  ·subst h;have hr:=af (hz.1 rfl);clear hz;go_wp2_with fail;go_ret;exact aD.yes ⟨by trivial,hr.out⟩ rf.out
  have d:(z==0)=false:=by simpa using h
  have hr:=af (fun k=>h (hz.2 k));clear hz;go_wp2_with fail;go_ret;exact aD.no (fun h=>hr.out h.2) rf.out
structure oM (fl:Int)(h m wr rd:Value)(b:Nat)(w:World):Prop where
 fl:Boxed w b 3 (.int .i64 fl)
 has:Boxed w (b+1) 145 h
 may:Boxed w (b+2) 137 m
 wr:Boxed w (b+3) 147 wr
 rd:Boxed w (b+4) 195 rd
theorem oM.ag{fl:Int}{h m wr rd:Value}{b:Nat}{w w':World}(x:oM fl h m wr rd b w)(hb:Below w.heap.size w w'):oM fl h m wr rd b w':=
 ⟨aF x.fl hb,aF x.has hb,aF x.may hb,aF x.wr hb,aF x.rd hb⟩
theorem oM.wrote{fl:Int}{h m wr rd:Value}{b:Nat}{w w':World}{M:List Nat}(x:oM fl h m wr rd b w)(hw:ak M w w')(h0:b∉M)(h1:b+1∉M)(h2:b+2∉M)(h3:b+3∉M)(h4:b+4∉M):oM fl h m wr rd b w':=
 ⟨hw.boxed h0 x.fl,hw.boxed h1 x.has,hw.boxed h2 x.may,hw.boxed h3 x.wr,hw.boxed h4 x.rd⟩
def lA(b:Nat):Value:=.pointer (some ⟨b,0,none⟩)
def zt(b:Nat):Array Value:=#[bG 183 #[lA (b+2)],bG 184 #[lA (b+1)],bG 185 #[lA b],bG 186 #[lA (b+3)],bG 187 #[lA (b+4)]]
theorem FL(fl:Int)(f1 f2 f3 f4:FuncId)(w:World):Calls prog 130 #[.int .i64 fl,bG f1 #[],bG f2 #[],bG f3 #[],bG f4 #[]] w fun e w'=>∃b,w.heap.size<=b/\e=.returned (.agg (zt b))/\oM fl (bG f1 #[]) (bG f2 #[]) (bG f3 #[]) (bG f4 #[]) b w'/\Below w.heap.size w w':=by
 have wA:∀(fn:Fn)(first cap:Array Value)(w:World),(Instr.makeFunc fn first cap).run prog w=.ok (.func fn first cap) w:=fun _ _ _ _=>rfl;obtain⟨w1,bL⟩:=ae (((((w.alloc (.cells #[.int .i64 fl] 3)).alloc (.cells #[bG f1 #[]] 145)).alloc (.cells #[bG f2 #[]] 137)).alloc (.cells #[bG f3 #[]] 147)).alloc (.cells #[bG f4 #[]] 195));have hL:oM fl (bG f1 #[]) (bG f2 #[]) (bG f3 #[]) (bG f4 #[]) w.heap.size w1:=by
  rw[<-bL];refine⟨?_,?_,?_,?_,?_⟩
  ·exact((((Boxed.new w _ _).alloc _).alloc _).alloc _).alloc _
  ·have h:=Boxed.new (w.alloc (.cells #[.int .i64 fl] 3)) 145 (bG f1 #[]);rw[World.size_alloc]at h;exact((h.alloc _).alloc _).alloc _
  ·have h:=Boxed.new ((w.alloc (.cells #[.int .i64 fl] 3)).alloc (.cells #[bG f1 #[]] 145)) 137 (bG f2 #[]);rw[World.size_alloc,World.size_alloc]at h;exact(h.alloc _).alloc _
  ·have h:=Boxed.new (((w.alloc (.cells #[.int .i64 fl] 3)).alloc (.cells #[bG f1 #[]] 145)).alloc (.cells #[bG f2 #[]] 137)) 147 (bG f3 #[]);rw[World.size_alloc,World.size_alloc,World.size_alloc]at h;exact h.alloc _
  have h:=Boxed.new ((((w.alloc (.cells #[.int .i64 fl] 3)).alloc (.cells #[bG f1 #[]] 145)).alloc (.cells #[bG f2 #[]] 137)).alloc (.cells #[bG f3 #[]] 147)) 195 (bG f4 #[]);rw[World.size_alloc,World.size_alloc,World.size_alloc,World.size_alloc]at h;exact h
 have hb:Below w.heap.size w w1:=by rw[<-bL];exact JX
 have hs:w1.heap.size=w.heap.size+5:=by rw[<-bL];simp
 unfold bG at bL ⊢;go_enter func130,ntmps130;replace hs:=af hs;go_wp2_with fail;refine bodyPost_ret (aJ results130 rfl (aj (ar.new w1 (zt w.heap.size) 150) 150 underlying150 rfl (by kernel_rfl))) rfl ?_;have hb2:Below w1.heap.size w1 (w1.alloc (.cells (zt w.heap.size) 150)):=(Below.refl _ w1).alloc ah _;exact⟨w.heap.size,Nat.le_refl _,rfl,hL.ag hb2,hb.trans (hb2.mono hb.size)⟩
def Tk:Array Value:=#[bG 197 #[],bG 200 #[],.nilFunc,bG 201 #[],bG 203 #[]]
def Tl:Array Value:=#[bG 204 #[],bG 205 #[],bG 206 #[],bG 208 #[],bG 209 #[]]
theorem DX(w:World):Calls prog 156 #[] w fun e w'=>e=.returned (.agg Tk)/\Below w.heap.size w w':=by
 go_enter func156,ntmps156;go_wp2_with fail
 refine bodyPost_ret (aJ results156 rfl (aj (ar.new w Tk 150) 150 underlying150 rfl (by kernel_rfl))) rfl ?_;exact⟨rfl,(Below.refl _ w).alloc ah _⟩
theorem DY(w:World):Calls prog 157 #[] w fun e w'=>e=.returned (.agg Tl)/\Below w.heap.size w w':=by
 go_enter func157,ntmps157;go_wp2_with fail
 refine bodyPost_ret (aJ results157 rfl (aj (ar.new w Tl 150) 150 underlying150 rfl (by kernel_rfl))) rfl ?_;exact⟨rfl,(Below.refl _ w).alloc ah _⟩
theorem lB(fl:Int)(w:World):Calls prog 158 #[.int .i64 fl] w fun e w'=>∃b,w.heap.size<=b/\e=.returned (.agg (zt b))/\oM fl (bG 211 #[]) (bG 212 #[]) (bG 213 #[]) (bG 214 #[]) b w'/\Below w.heap.size w w':=by
 obtain⟨W0,hW0⟩:=ae (w.alloc (.cells #[.nilFunc,.nilFunc,.nilFunc,.nilFunc,.nilFunc] 150));have hb0:Below w.heap.size w W0:=by rw[<-hW0];exact(Below.refl _ w).alloc ah _
 have hx:ar W0 w.heap.size #[.nilFunc,.nilFunc,.nilFunc,.nilFunc,.nilFunc] 150:=by rw[<-hW0];exact ar.new _ _ _
 have CL:=af (FL fl 211 212 213 214 W0);replace hb0:=af hb0;replace hx:=af hx;go_enter func158,ntmps158;go_wp2_with fail
 refine CL.mono ?_;rintro e w1 ⟨b,hbl,rfl,hL,hb1⟩;have hbl:=af hbl;have hx1:=hx.ag hb1;have HL:=af hL;have HB:=af (hb0.trans (hb1.mono hb0.size));have hs1:=af hb1.size;clear hL hb1;obtain⟨cs,hcs⟩:=ae (zt b);have hz:Hid (cs.size=5):=af (by rw[<-hcs];rfl);have ho:Hid (∀v∈cs.toList,v.oneCell'=true):=af (by rw[<-hcs];simp[zt,bG,Value.oneCell']);rw[hcs];replace hcs:=af hcs;go_wp2_with (refine wS 150 5 rfl _ _ cs rfl rfl hx1 hz.out rfl ho.out ?_;intro w2 hw2 hr2);refine bodyPost_ret (aJ results158 rfl (aj hw2 150 underlying150 rfl (by rw[hz];kernel_rfl))) rfl ?_;have hlt:=hx.lt;have hbl:=hbl.out;exact⟨b,by omega,by rw[hcs.out],HL.wrote hr2 (by simp;omega) (by simp;omega) (by simp;omega) (by simp;omega) (by simp;omega),HB.trans (hr2.ag HB.size (by simp))⟩
end
theorem Ie(z:Int):vy z=true↔0<=z/\z<=65535:=by simp[vy]
theorem Ig(x:dE)(h2:x.t.kind=2->tP x.t.pk x.h):np x:=fun c v hv=>by
 obtain⟨k,hk⟩:=ae x.t.kind;rw[hk]at hv h2;have OI:1<=k/\k<=8:=by refine Classical.byContradiction fun h=>?_;unfold df at hv;rw[if_neg (by omega),if_neg (by omega),if_neg (by omega),if_neg (by omega),if_neg (by omega),if_neg (by omega),if_neg (by omega),if_neg (by omega)]at hv;cases hv
 have:k=1\/k=2\/k=3\/k=4\/k=5\/k=6\/k=7\/k=8:=by omega
 rcases this with rfl | rfl | rfl | rfl | rfl | rfl | rfl | rfl
 ·obtain rfl:sD=v:=Option.some.inj hv;refine⟨_,_,_,_,_,_,_,_,rfl,enters_of func45 (by kernel_rfl) rfl,enters_of func46 (by kernel_rfl) rfl,fun W hi hb=>?_,fun W=>?_⟩
  ·refine(ml x.t x.h x.hp W).mono fun e w' h=>⟨_,h.1,by(simp[mf,hk]),h.2⟩
  refine(Fw x.t x.h x.hp W).mono fun e w' ⟨he,hb⟩=>⟨⟨_,_,_⟩,he,?_,fun W' h=>?_,hb⟩
  ·unfold cZ;simp[hk,ig]
  exact⟨⟨aW.nil W',aW.nil W',aW.nil W'⟩,aW.nil W'⟩
 ·obtain rfl:Ov c=v:=Option.some.inj hv;refine⟨_,_,_,_,_,_,_,_,rfl,enters_of func50 (by kernel_rfl) rfl,enters_of func52 (by kernel_rfl) rfl,fun W hi hb=>?_,fun W=>?_⟩
  ·refine(OU x c W hb hi (h2 rfl)).mono fun e w' ⟨b,he,hi,lN⟩=>⟨b,he,hi.trans (by(simp[mf,hk,Ie])),lN⟩
  refine(Oz x.t x.h x.hp W).mono fun e w' ⟨he,hb⟩=>⟨⟨_,_,_⟩,he,?_,fun W' h=>?_,hb⟩
  ·unfold cZ;simp[hk,ig]
  exact⟨⟨h.pk.lw,h.pk.lc,h.pk.lf⟩,aW.nil W'⟩
 ·obtain rfl:yx c=v:=Option.some.inj hv;refine⟨_,_,_,_,_,_,_,_,rfl,enters_of func58 (by kernel_rfl) rfl,enters_of func59 (by kernel_rfl) rfl,fun W hi hb=>?_,fun W=>?_⟩
  ·refine(Lr x c W hb).mono fun e w' h=>aD.of (by(simp[mf,hk,vy])) h
  refine(KP x.t x.h x.hp W).mono fun e w' ⟨he,hb⟩=>⟨⟨_,_,_⟩,he,?_,fun W' h=>?_,hb⟩
  ·unfold cZ;simp[hk,ig]
  exact⟨⟨aW.nil W',aW.nil W',aW.nil W'⟩,aW.nil W'⟩
 ·obtain rfl:sD=v:=Option.some.inj hv;refine⟨_,_,_,_,_,_,_,_,rfl,enters_of func45 (by kernel_rfl) rfl,enters_of func46 (by kernel_rfl) rfl,fun W hi hb=>?_,fun W=>?_⟩
  ·refine(ml x.t x.h x.hp W).mono fun e w' h=>⟨_,h.1,by(simp[mf,hk]),h.2⟩
  refine(Fw x.t x.h x.hp W).mono fun e w' ⟨he,hb⟩=>⟨⟨_,_,_⟩,he,?_,fun W' h=>?_,hb⟩
  ·unfold cZ;simp[hk,ig]
  exact⟨⟨aW.nil W',aW.nil W',aW.nil W'⟩,aW.nil W'⟩
 ·obtain rfl:jc=v:=Option.some.inj hv;refine⟨_,_,_,_,_,_,_,_,rfl,enters_of func45 (by kernel_rfl) rfl,enters_of func49 (by kernel_rfl) rfl,fun W hi hb=>?_,fun W=>?_⟩
  ·refine(ml x.t x.h x.hp W).mono fun e w' h=>⟨_,h.1,by(simp[mf,hk]),h.2⟩
  refine(yA x.t x.h x.hp W).mono fun e w' ⟨he,hb⟩=>⟨⟨_,_,_⟩,he,?_,fun W' h=>?_,hb⟩
  ·unfold cZ;simp[hk,ig]
  exact⟨⟨aW.nil W',aW.nil W',aW.nil W'⟩,aW.nil W'⟩
 ·obtain rfl:jc=v:=Option.some.inj hv;refine⟨_,_,_,_,_,_,_,_,rfl,enters_of func45 (by kernel_rfl) rfl,enters_of func49 (by kernel_rfl) rfl,fun W hi hb=>?_,fun W=>?_⟩
  ·refine(ml x.t x.h x.hp W).mono fun e w' h=>⟨_,h.1,by(simp[mf,hk]),h.2⟩
  refine(yA x.t x.h x.hp W).mono fun e w' ⟨he,hb⟩=>⟨⟨_,_,_⟩,he,?_,fun W' h=>?_,hb⟩
  ·unfold cZ;simp[hk,ig]
  exact⟨⟨aW.nil W',aW.nil W',aW.nil W'⟩,aW.nil W'⟩
 ·obtain rfl:Ow=v:=Option.some.inj hv;refine⟨_,_,_,_,_,_,_,_,rfl,enters_of func62 (by kernel_rfl) rfl,enters_of func63 (by kernel_rfl) rfl,fun W hi hb=>?_,fun W=>?_⟩
  ·refine(Ls x W).mono fun e w' h=>aD.of (by(simp[mf,hk,and_assoc])) h
  refine(KR x.t x.h x.hp W).mono fun e w' ⟨he,hb⟩=>⟨⟨_,_,_⟩,he,?_,fun W' h=>?_,hb⟩
  ·unfold cZ;simp[hk,ig]
  exact⟨⟨aW.nil W',aW.nil W',aW.nil W'⟩,aW.nil W'⟩
 obtain rfl:yy=v:=Option.some.inj hv;refine⟨_,_,_,_,_,_,_,_,rfl,enters_of func67 (by kernel_rfl) rfl,enters_of func70 (by kernel_rfl) rfl,fun W hi hb=>?_,fun W=>?_⟩
 ·refine(Lt x W hi.p).mono fun e w' h=>aD.of (by(simp[mf,hk])) h
 refine(KS x.t x.h x.hp W).mono fun e w' ⟨he,hb⟩=>⟨⟨_,_,_⟩,he,?_,fun W' h=>?_,hb⟩
 ·unfold cZ;simp[hk,ig]
 exact⟨⟨aW.nil W',aW.nil W',aW.nil W'⟩,h.p⟩
end Go.Proofs.YtkghejaimhoboaaGreatDoor
