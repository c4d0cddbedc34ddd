/- Parts of the proof of ScriptTurns. -/
import Derived.Test.YtkghejaimhoboaaGreatDoorPk38
set_option linter.unusedSimpArgs false
set_option linter.unusedVariables false
set_option maxRecDepth 100000
set_option maxHeartbeats 8000000
namespace Go.Proofs.YtkghejaimhoboaaGreatDoor
open Go.RowKit Go.Shelf Go.Proofs.Tryz
section
theorem lK{P:Prop}(h:P:=by
 go_upto_region 9 with fail
 have CB:=af (MR p h WW0 (qU.ag NW.ag) hr.out);rw[bt.out]at CB;have ta:=NW.pk;have tok:=af trivial;go_wp2_with (clear tok;refine wL 52 rfl rfl ta underlying52 ?_ rfl rfl ic.out);refine CB.mono ?_;rintro e w1 ⟨hb1,v1,rfl,ke⟩;obtain⟨bl,hbl⟩:=ae ((bj p).length);rw[hbl]at ke;have acx:bl<=5000:=by rw[<-hbl];exact hlen.out
 obtain⟨a1,c1,rfl⟩:=aA ke;have S1:=af (NW.step hb1);have Xw:=af (aT (base':=w.heap.size+1) ke NW.size);have k0b:=(kq _ S1.pk).1;have CL:=af (NQ (bl:Int) w1 (by unfold kY;simp;omega));have hbl:=af hbl;clear ke hb1 CB ta;go_wp2_with fail;refine CL.mono ?_;rintro e w2 ⟨v2,rfl,tG,hb2⟩;have Ip:=nX (bl:Int);have wZ:Hid (bs (eG p)=[.int .u8 fb]++bs (eP (bR (bl:Int)) bl)++bs (bj p)):=af (by unfold eG yG;rw[hbl.out,show(UInt8.ofNat (16*p.kind.toNat+cE p)::(eP (bR (bl:Int)) bl++bj p))=[UInt8.ofNat (16*p.kind.toNat+cE p)]++(eP (bR (bl:Int)) bl++bj p)from rfl,lZ,lZ,<-List.append_assoc];congr 2;unfold bs;simp only[List.map_cons,List.map_nil];rw[gv _ (by have:=nj hr.out;have:=dH hr.out;omega)];have h1:=mK.out;have h2:=dP.out;congr 2;omega)
 have uj:Hid ((eG p).length=1+bR (bl:Int)+bl):=af (by unfold eG yG;rw[List.length_cons,List.length_append,eu,hbl.out];omega)
 obtain⟨sl,sX⟩:=ae (bR (bl:Int));rw[sX]at tG wZ Ip uj;rw[show((bl:Nat):Int).toNat=bl from rfl]at tG;obtain⟨a2,c2,rfl⟩:=aA tG;have S2:=af (S1.step hb2);have HO2:=af (aT (base':=w.heap.size+1) tG S1.size);have rf:=af (aB Xw.out hb2);have k0c:=(kq _ S2.pk).1;have hs2:=S2.size;have sX:=af sX;have hwr:=hwr.out;clear tG hb2 CL k0b Xw S1;have t1:=af trivial;have t2:=af trivial;have rj:=(Below.refl w2.heap.size w2).alloc ah (.cells #[.int .u8 fb] 5);have HL:=af (My fb w2);have ac0:=af (aB HO2.out rj);have ac1:=af (aB rf.out rj);have S2a:=af (S2.step rj);have u3:=af rf.lt;clear HO2 rf rj;go_wp2_with (first
  | (clear t1;at_builtin;refine wpList_plain rfl fun _ hK=>aR _ _ rfl Tryz.vF (by decide) w2.heap.size _ 1 _ rfl HL.out (w.heap.size+1) _ sl _ rfl ac0.out (eX _) (by omega) (by omega) (by simp) fun v14 Er xO Br Yd=>hK _ _ ?_;have ac2:=pN ac1.out (fun g hg e=>by have h1:=(u3 g hg).2;have h2:w2.heap.size=g:=Option.some.inj e;omega) Br)
  | (clear t2;at_builtin;refine wpList_plain rfl fun _ hK=>aR _ _ rfl Tryz.vF (by decide) w2.heap.size _ (1+sl) _ rfl xO (w.heap.size+1) _ bl _ rfl ac2 (eX _) (by omega) (by omega) (by have:=Br.size;simp at this;omega) fun v15 Q1 Gn Pv Ye=>hK _ _ ?_))
 go_ret;have KV:Below w2.heap.size w2 Er:=((Below.refl w2.heap.size w2).alloc ah _).grown Br (by simp) (fun y hy=>(HL.lt y hy).1);have OE:Below w2.heap.size w2 Q1:=KV.grown Pv KV.size (fun y hy=>(xO.lt y hy).1);refine⟨S2.ag.trans (OE.mono S2.ag.size),v15,rfl,?_⟩;rw[uj,wZ];exact aT (base':=w.heap.size) Gn S2.ag.size):P:=h
theorem gV{P:Prop}(h:P:=by
 go_enter func39,ntmps39;go_upto_region 2 with fail
 have NW:=S0;obtain⟨WW0,MU⟩:=ae (w.alloc (.cells pc 52));rw[MU]at NW k0 ⊢;clear S0 MU;exact lK):P:=h
attribute [local go_sem] Oper.semAt_some
theorem PF(p:Pk)(h:H3)(w:World)(cd:p.In w h)(hr:aZ p):Calls prog 39 #[.agg (p.cells h).toArray] w (mv (eG p) w):=by
 have hlen:=af (eU hr);have Km:=dH hr;have qU:=af cd;obtain⟨pc,bt⟩:=ae ((p.cells h).toArray);have kc:Hid (∀W,ar W w.heap.size pc 52->∀i,W.cell? ⟨w.heap.size,i,none⟩=(p.cells h)[i]?):=af fun W hb i=>by rw[hb.cell,<-bt];simp
 have S0:Hid (fN w pc [] (.slice none 0 0) (w.alloc (.cells pc 52))):=af (fN.start ai);rw[bt];replace bt:=af bt;have ic:Hid ((prog.info? 52).map (·.size)=some pc.size):=af (by rw[<-bt.out];exact(by kernel_rfl:(prog.info? 52).map (·.size)=some 24));obtain⟨kd,dP⟩:=ae p.kind;have kq:Hid (∀W,ar W w.heap.size pc 52->W.cell? ⟨w.heap.size,0,none⟩=some (.int .i64 kd)/\True):=af fun W hb=>⟨by rw[<-dP];exact kc _ hb 0,trivial⟩;have k0:=(kq _ S0.pk).1;obtain⟨fz,hfz⟩:=ae (((cE p:Nat):Int):Int);have zf:0<=fz:=by omega
 have Jw:fz<16:=by have:=nj hr;omega
 have gW:1<=kd:=by omega
 have hk2:kd<=14:=by omega
 have mK:Hid (((cE p:Nat):Int)=fz):=af hfz;have hr:=af hr;replace dP:=af dP;obtain⟨fb,Gm⟩:=ae (kd*16+fz);by_cases k3:kd=3
 ·subst k3;have hm:=hr.1;rw[show bV p=fy p from by unfold bV;rw[if_neg (by have:=dP.out;omega),if_neg (by have:=dP.out;omega),if_pos dP.out]]at hm;unfold fy at hm;rw[Bool.and_eq_true,Bool.and_eq_true,Bool.and_eq_true]at hm;have hq:=within_iff.1 hm.1.2;obtain⟨du,PA⟩:=ae p.dup;obtain⟨rt,hrt⟩:=ae p.retain;obtain⟨zq,Ur⟩:=ae p.qos;have kx:Hid (∀W,ar W w.heap.size pc 52->W.cell? ⟨w.heap.size,1,none⟩=some (.bool du)/\W.cell? ⟨w.heap.size,3,none⟩=some (.int .i64 zq)/\W.cell? ⟨w.heap.size,2,none⟩=some (.bool rt)):=af fun W hb=>⟨by rw[<-PA];exact kc _ hb 1,by rw[<-Ur];exact kc _ hb 3,by rw[<-hrt];exact kc _ hb 2⟩;obtain⟨z1,hz1⟩:=ae (((aY du 8:Nat):Int):Int);obtain⟨z2,hz2⟩:=ae (((aY rt 1:Nat):Int):Int);have y1:0<=z1/\z1<=8:=by have:=iQ du 8;omega
  have y2:0<=z2/\z2<=1:=by have:=iQ rt 1;omega
  rw[Ur]at hq;have Us:z1+2*zq+z2=fz:=by rw[<-hfz];unfold cE;rw[if_pos dP.out,PA,hrt,Ur];omega
  have C1:=af (fun W=>fV du 8 W);have C2:=af (fun W=>fV rt 1 W);rw[hz1]at C1;rw[hz2]at C2;obtain⟨D3,y11⟩:=y1;obtain⟨y20,y21⟩:=y2;obtain⟨yq0,yq1⟩:=hq;clear hz1 hz2 PA hrt Ur hm hfz;go_enter func39,ntmps39;go_upto_region 4 with fail
  try simp only[PT]
  have SD:=S0.step ai.drew;refine aH [(1000,fun w'=>ar w' w.heap.size pc 52)] (by kernel_rfl) ⟨SD.pk,trivial⟩ fun KQ aL=>?_;try simp only[PT]
  obtain⟨WD,di⟩:=ae ((w.alloc (.cells pc 52)).drew);rw[di]at SD ⊢;refine tQ [0] ?_;refine aG 1 rfl (by kernel_rfl) (by kernel_rfl) rfl rfl 0 rfl (by kernel_rfl) (.bool du) (fun w' hf=>by(have k0:=(kx _ hf).1;go_simp<;>with_reducible rfl)) ?_;simp only[PT];refine tQ [3] ?_;refine aG 4 rfl (by kernel_rfl) (by kernel_rfl) rfl rfl 0 rfl (by kernel_rfl) (.int .i64 zq) (fun w' hf=>by(have k0:=(kx _ hf).2.1;go_simp<;>with_reducible rfl)) ?_;simp only[PT];refine tQ [5,7] ?_;refine aG 8 rfl (by kernel_rfl) (by kernel_rfl) rfl rfl 0 rfl (by kernel_rfl) (.bool rt) (fun w' hf=>by(have k0:=(kx _ hf).2.2;go_simp<;>with_reducible rfl)) ?_;simp only[PT];refine sQ 2 fun K hK=>?_;simp only[GO];go_simp;refine(C1 WD).mono ?_;rintro e w1 ⟨rfl,rfl⟩;refine hK _ _ ⟨⟨fun _=>SD.pk,trivial⟩,?_⟩;clear hK K;try simp only[PT]
  refine tQ [6] ?_;refine sQ 9 fun K hK=>?_;simp only[GO];go_simp;refine(C2 WD).mono ?_;rintro e w1 ⟨rfl,rfl⟩;refine hK _ _ ⟨⟨fun _=>SD.pk,trivial⟩,?_⟩;clear hK K;try simp only[PT]
  refine tQ [10,11] ?_;refine dQ (aL.out _ _ ?_);clear aL KQ;have NW:=af SD;obtain⟨WW0,MU⟩:=ae WD;rw[MU]at NW ⊢;clear S0 MU di SD C1 C2 k0;have hwr:Hid (IntKind.u8.wrap (48+fz)=fb):=af (by rw[IntKind.wrap_u8];omega);exact lK
 have e3:(kd==3)=false:=by simpa using k3
 by_cases k6:kd=6\/kd=8\/kd=10
 ·have ef:fz=2:=by rw[<-hfz,vI (by have:=dP.out;omega)];rfl
  rcases k6 with rfl | rfl | rfl
  ·have hwr:Hid (IntKind.u8.wrap (98)=fb):=af (by rw[IntKind.wrap_u8];omega);exact gV
  ·have hwr:Hid (IntKind.u8.wrap (130)=fb):=af (by rw[IntKind.wrap_u8];omega);exact gV
  skip;have hwr:Hid (IntKind.u8.wrap (162)=fb):=af (by rw[IntKind.wrap_u8];omega);exact gV
 have ef:fz=0:=by rw[<-hfz,fU (by have:=dP.out;omega) (by have:=dP.out;omega)];rfl
 have e6:(kd==6)=false:=by simpa using(show kd≠6 by omega)
 have e8:(kd==8)=false:=by simpa using(show kd≠8 by omega)
 have e10:(kd==10)=false:=by simpa using(show kd≠10 by omega)
 have hwr:Hid (IntKind.u8.wrap (16*kd)=fb):=af (by rw[IntKind.wrap_u8];omega);exact gV
end
section
attribute [local go_sem] Oper.semAt_some
structure BK (B:Nat)(W:World)(y:Pk)(h:H3):Prop where
 lw:∀M,(∀b∈M,b<B)->eN bM.cl 2 W h.w y.wants M
 lc:∀M,(∀b∈M,b<B)->eN jD 1 W h.c y.codes M
 lf:∀M,(∀b∈M,b<B)->eN uV 1 W h.f y.filters M
structure MV (o:Option Pk)(w:World)(e:Ending)(w':World):Prop where
 ag:Below w.heap.size w w'
 out:(o=none/\∃cs:Array Value,e=.returned (.tuple #[.agg cs,.bool false])/\cs.size=24/\∀v∈cs.toList,v.oneCell'=true)\/
  ∃(y:Pk)(h:H3),o=some y/\e=.returned (.tuple #[.agg (({y with kind:=0}:Pk).cells h).toArray,.bool true])/\BK w.heap.size w' y h
structure rk (w:World)(cs:Array Value)(W:World):Prop where
 low:Below w.heap.size w W
 res:ar W w.heap.size bF 52
 pk:ar W (w.heap.size+1) cs 52
theorem rk.size{w:World}{cs:Array Value}{W:World}(h:rk w cs W):w.heap.size+2<=W.heap.size:=by have:=h.pk.lt;omega
theorem rk.step{w:World}{cs:Array Value}{W W':World}(h:rk w cs W)(hb:Below W.heap.size W W'):rk w cs W':=⟨h.low.trans (hb.mono h.low.size),h.res.ag hb,h.pk.ag hb⟩
theorem rk.grow{w:World}{cs:Array Value}{W W':World}{r:Option Nat}(h:rk w cs W)(hg:W.grownBy W' r)(hr:∀g,r=some g->w.heap.size+2<=g):rk w cs W':=
 ⟨h.low.grown hg h.low.size (fun g e=>by have:=hr g e;omega),h.res.keep (hg.block _ h.res.lt (fun e=>by have:=hr _ e.symm;omega)),h.pk.keep (hg.block _ h.pk.lt (fun e=>by have:=hr _ e.symm;omega))⟩
theorem rk.put{w:World}{cs cs':Array Value}{W W':World}(h:rk w cs W)(hb:ar W' (w.heap.size+1) cs' 52)(hw:ak [w.heap.size+1] W W'):rk w cs' W':=
 ⟨h.low.trans (hw.ag h.low.size (by simp)),h.res.aw hw (by simp),hb⟩
theorem jY{w w':World}{base e size n:Nat}{v:Value}{xs:List Value}{M:List Nat}(h:w.ownsRow base e size v n xs)(hw:ak M w w')(hM:∀x∈M,x<base):w'.ownsRow base e size v n xs:=by
 obtain⟨hl,hx | ⟨g,cap,cur,rfl,hb,hh,hx⟩⟩:=h
 ·exact⟨hl,.inl hx⟩
 exact⟨hl,.inr ⟨g,cap,cur,rfl,hb,(hw.block g (Array.getElem?_eq_some_iff.1 hh).1 (fun hm=>by have:=hM g hm;omega)).trans hh,hx⟩⟩
theorem lL(x y:UInt8)(l:List UInt8):aX 2 (x::y::l)=some (x.toNat*256+y.toNat,l):=by unfold aX;rw[if_neg (by simp)];simp[jO]
theorem BL(a:Option Addr)(n c:Nat)(l:List UInt8)(w:World)(hr:ax w a n c (bs l))(hn:n<=65536):Calls prog 103 #[.int .i64 9,.slice a n c] w (MV (kN 9 l) w):=by
 have hl:l.length=n:=by have:=hr.len;rw[cV]at this;exact this
 have hz:Hid (kN 9 l=(aX 2 l).bind fun i=>(cx cm i.2.length i.2).bind fun xs=>some {aN 9 with id:=(i.1:Int),codes:=xs}):=af (by
  unfold kN;rw[if_pos rfl];unfold l6;cases aX 2 l with
  | none=>rfl
  |some i=>simp only[Option.bind_some];cases cx cm i.2.length i.2<;>rfl)
 by_cases h2:n<2
 ·have d:decide ((n:Int)<2)=true:=decide_eq_true (by omega);have hno:Hid (kN 9 l=none):=af (by rw[hz];unfold aX;rw[if_pos (by omega)];rfl);have hZ:ar (w.alloc (.cells bF 52)) w.heap.size bF 52:=ar.new _ _ _;have cH:=af (Pk.one (aN 0) bo);unfold bF at hZ;go_enter func103,ntmps103;go_wp2_with (refine wS 52 24 rfl w.heap.size _ ((aN 0).cells bo).toArray rfl rfl hZ rfl rfl cH.out ?_;intro w9 cC dN)
  refine bodyPost_ret (aS results103 rfl (aj cC 52 underlying52 rfl (by kernel_rfl)) rfl) rfl ?_;have b0:Below w.heap.size w (w.alloc (.cells bF 52)):=ai.alloc ah _;exact⟨b0.trans (dN.ag (by simp) (by simp)),.inl ⟨hno.out,_,rfl,rfl,cH.out⟩⟩
 skip;have d:decide ((n:Int)<2)=false:=decide_eq_false (by omega);obtain⟨x,y,l2,rfl⟩:∃x y l2,l=x::y::l2:=by
  match l,hl with
  | x::y::l2,_=>exact⟨x,y,l2,rfl⟩
  | [_],h=>simp at h;omega
  | [],h=>simp at h;omega
 have hl2:l2.length+2=n:=by simpa using hl
 obtain⟨bb,off,ha,hc0⟩:=hr.byte (show 0<n by omega);have hc1:w.cell? ⟨bb,off+1,none⟩=some (.int .u8 ((y.toNat:Nat):Int)):=by obtain⟨b2,o2,e2,h9⟩:=hr.byte (show 1<n by omega);rw[ha]at e2;cases e2;exact h9
 replace hc0:w.cell? ⟨bb,off,none⟩=some (.int .u8 ((x.toNat:Nat):Int)):=by simpa using hc0
 obtain⟨xz,ki⟩:=ae (((x.toNat:Nat):Int):Int);obtain⟨yz,jE⟩:=ae (((y.toNat:Nat):Int):Int);have hx0:0<=xz:=by omega
 have hx1:xz<256:=by have:=x.toNat_lt;omega
 have Vt:0<=yz:=by omega
 have Vu:yz<256:=by have:=y.toNat_lt;omega
 obtain⟨iz,YD⟩:=ae (256*xz+yz:Int);have qO:Hid (aX 2 (x::y::l2)=some (iz.toNat,l2)/\0<=iz):=af ⟨by rw[lL];congr 2;omega,by omega⟩;rw[ki]at hc0;rw[jE]at hc1;have HR:=af hr;have BC:Hid (∀W,Below w.heap.size w W->W.cell? ⟨bb,off,none⟩=some (.int .u8 xz)/\W.cell? ⟨bb,off+1,none⟩=some (.int .u8 yz)):=af fun W hb=>by obtain⟨b2,o2,e2,h9⟩:=(hr.ag hb).byte (show 0<n by omega);obtain⟨b3,o3,e3,h10⟩:=(hr.ag hb).byte (show 1<n by omega);rw[ha]at e2 e3;cases e2;cases e3;exact⟨by rw[<-ki];simpa using h9,by rw[<-jE];exact h10⟩
 have Z0:ar (w.alloc (.cells bF 52)) w.heap.size bF 52:=ar.new _ _ _;have B0:Hid (Below w.heap.size w (w.alloc (.cells bF 52))):=af (ai.alloc ah _);have hle:=hr.le;have hmx:=hr.max;subst ha;clear hr hc0 hc1 hl;replace Z0:=af Z0;replace ki:=af ki;replace jE:=af jE;go_enter func103,ntmps103;go_upto_region 3 with fail
 try simp only[PT]
 obtain⟨WD,di⟩:=ae ((w.alloc (.cells bF 52)).drew);have BD:Below w.heap.size w WD:=by rw[<-di];exact B0.drew
 have ZD:ar WD w.heap.size bF 52:=by rw[<-di];exact Z0.out
 have Ch:WD.heap.size=w.heap.size+1:=by rw[<-di];simp
 refine aH [(1000,fun w'=>w'.cell? ⟨bb,off,none⟩=some (.int .u8 xz)/\w'.cell? ⟨bb,off+1,none⟩=some (.int .u8 yz))] (by kernel_rfl) ⟨BC _ B0.drew,trivial⟩ fun KQ aL=>?_;try simp only[PT]
 change atR _ _ _ _ _ _ (w.alloc (.cells bF 52)).drew;rw[di];clear di B0 Z0;refine tQ [0,1] ?_;refine aG 2 rfl (by kernel_rfl) (by kernel_rfl) rfl rfl 0 rfl (by kernel_rfl) (.int .u8 xz) (fun w' hf=>by(have k0:=hf.1;go_simp<;>with_reducible rfl)) ?_;simp only[PT];refine tQ [3,4,5,6] ?_;refine aG 7 rfl (by kernel_rfl) (by kernel_rfl) rfl rfl 0 rfl (by kernel_rfl) (.int .u8 yz) (fun w' hf=>by(have k0:=hf.2;go_simp<;>with_reducible rfl)) ?_;simp only[PT];refine tQ [8,9] ?_;refine fM 10 rfl (by kernel_rfl) (.agg (({aN 0 with id:=iz}:Pk).cells bo).toArray) (by kernel_rfl) (fun w' _=>by rw[<-YD];kernel_rfl) ?_;try simp only[PT]
 refine sQ 11 fun K hK=>?_;simp only[GO];go_simp;refine hK _ _ ⟨⟨fun _=>BC.out _ (BD.alloc BD.size _),trivial⟩,?_⟩;clear hK K;try simp only[PT]
 refine sQ 12 fun K hK=>?_;simp only[GO];refine wW 52 24 rfl (w.heap.size+1) bF (({aN 0 with id:=iz}:Pk).cells bo).toArray rfl rfl (by rw[<-Ch];exact ar.new _ _ _) rfl rfl (Pk.one _ _) fun w3 hw3 hr3=>?_;have L3:rk w (({aN 0 with id:=iz}:Pk).cells bo).toArray w3:=
  ⟨(BD.alloc BD.size _).trans (hr3.ag (by simp;omega) (by simp)),(ZD.alloc _).aw hr3 (by simp),hw3⟩
 refine hK _ _ ⟨⟨fun _=>BC.out _ L3.low,trivial⟩,?_⟩;clear hK K;try simp only[PT]
 refine dQ (aL.out _ _ ?_);clear aL KQ;have BM:=fun W=>ck Tryz.fP Tryz.xh (some ⟨bb,off,none⟩) n c (2:Int) 2 rfl (by omega) W;have hrow2:Hid (∀W,ax W (some ⟨bb,off,none⟩) n c (bs (x::y::l2))->ax W (eJ (some ⟨bb,off,none⟩) c 2) l2.length (c-2) (bs l2)):=af fun W h=>by have h9:=h.from (i:=2) (by omega);rw[dV]at h9;rw[show n-2=l2.length by omega]at h9;exact h9
 rw[show n-2=l2.length by omega]at BM;have Gv:=af L3;clear L3 hw3 hr3 BD ZD Ch;go_wp2_with fail;go_loopw [1] (fun b wr=>∃(j:Nat)(xs:List Int)(r:List UInt8)(a':Option Addr)(c':Nat)(av:Option Addr)(cv:Nat),b=.slice a' r.length c'/\Hid (∀W,ax W (some ⟨bb,off,none⟩) n c (bs (x::y::l2))->ax W a' r.length c' (bs r))/\Hid (bJ cm j l2=some (xs,r))/\j+r.length=l2.length/\Hid (rk w (({aN 0 with id:=iz,codes:=xs}:Pk).cells ⟨bQ,⟨av,j,cv⟩,bQ⟩).toArray wr)/\Hid (wr.ownsRow (w.heap.size+2) 3 1 (.slice av j cv) j (yK xs))) (fun b _=>match b with | .slice _ m _=>m | _=>0)
 case atStart=>exact⟨0,[],l2,_,_,none,0,rfl,hrow2,af rfl,by omega,Gv,af (World.ownsRow_nil _ _ _ _)⟩
 case round=>
  obtain⟨j,xs,r,a',c',av,cv,rfl,mG,eA,vW,hL,how⟩:=hrel;obtain⟨wx,hwx⟩:∃W,W=wr:=⟨_,rfl⟩;subst hwx;cases r with
  | nil=>
   have KZ:=hL.out;have jZ:Hid ((prog.info? 52).map (·.size)=some (({aN 0 with id:=iz,codes:=xs}:Pk).cells ⟨bQ,⟨av,j,cv⟩,bQ⟩).toArray.size):=af (by kernel_rfl:(prog.info? 52).map (·.size)=some 24);have cH:=af (Pk.one {aN 0 with id:=iz,codes:=xs} ⟨bQ,⟨av,j,cv⟩,bQ⟩);have dR:Hid (((({aN 0 with id:=iz,codes:=xs}:Pk).cells ⟨bQ,⟨av,j,cv⟩,bQ⟩).toArray).size=24):=af rfl;obtain⟨zc,dA⟩:∃zc,(({aN 0 with id:=iz,codes:=xs}:Pk).cells ⟨bQ,⟨av,j,cv⟩,bQ⟩).toArray=zc:=⟨_,rfl⟩;rw[dA]at KZ jZ cH dR;replace dA:=af dA;clear Gv hL hrow2 mG;go_wp2_with (first
    | (refine wL 52 rfl rfl KZ.pk underlying52 ?_ rfl rfl jZ.out)
    | (refine wS 52 24 rfl w.heap.size _ _ rfl rfl KZ.res dR.out rfl cH.out ?_;intro w9 cC dN))
   refine bodyPost_ret (aS results103 rfl (aj cC 52 underlying52 rfl jZ.out) rfl) rfl ?_;have hall:=(ej cm (fun l x r h=>by have:=l8 h;rw[this,List.length_append,aO];omega) j l2.length l2 [] xs eA.out ah).1 rfl
   refine⟨KZ.low.trans (dN.ag KZ.low.size (by simp)),.inr ⟨{aN 9 with id:=iz,codes:=xs},⟨bQ,⟨av,j,cv⟩,bQ⟩,?_,by rw[<-dA.out];rfl,?_⟩⟩
   ·rw[hz,qO.1,Option.bind_some];dsimp only;rw[hall,Option.bind_some,Int.toNat_of_nonneg qO.2]
   refine⟨fun M _=>eN.nil _ M,?_,fun M _=>eN.nil _ M⟩;have xw:aW jD 1 wx av j cv xs:=by have h9:=how.out;rw[vC]at h9;exact cX (f:=jD) (size:=1) (fun _=>rfl) h9 (iL cm j l2 [] xs eA.out)
   exact fun M hM=>⟨xw.wrote dN (fun hne y hy hm=>by
    have h9:=(how.out.lt y.block (by rw[hy];rfl)).1;simp at hm;omega),fun hne y hy hm=>by
    have h9:=(how.out.lt y.block (by dsimp only at hy;rw[hy];rfl)).1;have h8:=hM _ hm;omega⟩
  | cons bx r'=>
   have Js:j<=65536:=by simp at vW;omega
   have EG:=mG.out wx (HR.ag hL.out.low);obtain⟨b3,o3,Ri,hb3⟩:=EG.byte (show 0<(bx::r').length by simp);subst Ri;have Ux:=EG.le;have hb3:wx.cell? ⟨b3,o3,none⟩=some (.int .u8 ((bx.toNat:Nat):Int)):=by simpa using hb3
   obtain⟨bz,MW⟩:=ae (((bx.toNat:Nat):Int):Int);have ac4:0<=bz:=by omega
   have ac5:bz<256:=by have:=bx.toNat_lt;omega
   rw[MW]at hb3;have oT:Hid (bJ cm (j+1) l2=some (xs++[bz],r')):=af (by rw[dy,eA.out,Option.bind_some];unfold cm aX;rw[if_neg (by simp)];simp[jO,MW])
   have xf:Hid (∀W,ax W (some ⟨bb,off,none⟩) n c (bs (x::y::l2))->ax W (eJ (some ⟨b3,o3,none⟩) c' 1) r'.length (c'-1) (bs r')):=af fun W h=>by have h9:=(mG.out W h).from (i:=1) (by simp);rw[dV]at h9;simpa using h9
   have MX:(bx::r').length=r'.length+1:=rfl;rw[MX]at Ux ⊢;have vN:=fun W=>ck Tryz.fP Tryz.xh (some ⟨b3,o3,none⟩) (r'.length+1) c' (1:Int) 1 rfl (by omega) W;rw[Nat.add_sub_cancel]at vN;have YE:r'.length<=65536:=by simp at vW;omega
   replace MW:=af MW;clear EG Gv hrow2;go_upto_region 7 with fail;try simp only[PT]
   have LD:=hL.out.step ai.drew;have EH:wx.drew.cell? ⟨b3,o3,none⟩=some (.int .u8 bz):=hb3;obtain⟨WG,Gu⟩:=ae wx.drew;have pP:WG.ownsRow (w.heap.size+2) 3 1 (.slice av j cv) j (yK xs):=by rw[<-Gu];exact aB how.out ai.drew
   have Uy:Hid (∀W,Below w.heap.size w W->W.cell? ⟨b3,o3,none⟩=some (.int .u8 bz)):=af fun W hb=>by obtain⟨b4,o4,e4,h9⟩:=(mG.out W (HR.ag hb)).byte (show 0<(bx::r').length by simp);cases e4;rw[<-MW.out];simpa using h9
   refine aH [(11,fun w'=>ar w' (w.heap.size+1) (({aN 0 with id:=iz,codes:=xs}:Pk).cells ⟨bQ,⟨av,j,cv⟩,bQ⟩).toArray 52),(1000,fun w'=>w'.cell? ⟨b3,o3,none⟩=some (.int .u8 bz))] (by kernel_rfl) ⟨LD.pk,EH,trivial⟩ fun KQ aL=>?_;try simp only[PT]
   rw[Gu]at LD EH ⊢;clear Gu hb3;refine tQ [0] ?_;refine aG 1 rfl (by kernel_rfl) (by kernel_rfl) rfl rfl 0 rfl (by kernel_rfl) (.slice av j cv) (fun w' hf=>by(have k0:w'.cell? ⟨w.heap.size+1,22,none⟩=some (.slice av j cv):=hf.cell 22;go_simp<;>with_reducible rfl)) ?_;simp only[PT];refine tQ [2,3] ?_;refine aG 4 rfl (by kernel_rfl) (by kernel_rfl) rfl rfl 1 rfl (by kernel_rfl) (.int .u8 bz) (fun w' hf=>by(have k0:=hf;go_simp<;>with_reducible rfl)) ?_;simp only[PT];refine tQ [5,8] ?_;refine fX 9 rfl (by kernel_rfl) (by kernel_rfl) rfl Tryz.fP _ vN ?_;try simp only[PT]
   refine sQ 6 fun K hK=>?_;simp only[GO];go_simp;have rj:=(Below.refl WG.heap.size WG).alloc ah (.cells #[.int .i64 bz] 3);have LE:=LD.step rj;have MZ:=aB pP rj;refine hK _ _ ⟨⟨fun _=>LE.pk,fun _=>Uy.out _ LE.low,trivial⟩,?_⟩;clear hK K;try simp only[PT]
   refine sQ 7 fun K hK=>?_;simp only[GO];refine kH _ _ rfl Tryz.ZN (w.heap.size+2) _ j _ rfl pP (.int .i64 bz) rfl rfl (by omega) (by omega) LD.size fun v8 w8 tA JB=>?_;have L8:=LD.grow JB (fun g e=>(pP.lt g e).1);obtain⟨a8,c8,rfl⟩:=aA tA;refine hK _ _ ⟨⟨fun _=>L8.pk,fun _=>Uy.out _ L8.low,trivial⟩,?_⟩;clear hK K;try simp only[PT]
   refine tQ [10] ?_;refine sQ 11 fun K hK=>?_;simp only[GO];refine aC 49 52 _ _ rfl (fun w=>by kernel_rfl) (w.heap.size+1) 22 _ _ rfl rfl L8.pk (by exact(by decide:22<24)) rfl rfl ?_;intro w9 Gr cC;have L9:rk w (({aN 0 with id:=iz,codes:=xs++[bz]}:Pk).cells ⟨bQ,⟨a8,j+1,c8⟩,bQ⟩).toArray w9:=L8.put Gr cC;have nA:Hid (w9.ownsRow (w.heap.size+2) 3 1 (.slice a8 (j+1) c8) (j+1) (yK (xs++[bz]))):=af (by have h9:=jY tA cC (by simp);unfold yK at h9 ⊢;rw[List.map_append];exact h9)
   refine hK _ _ ⟨⟨(fun h=>by cases h),fun _=>Uy.out _ L9.low,trivial⟩,?_⟩;clear hK K;try simp only[PT]
   refine tQ [12] ?_;refine dQ (aL.out _ _ ?_);clear aL KQ;have YF:=af L9;clear L9 Gr cC L8 tA JB LE MZ LD pP EH rj hL how eA mG;go_wp2_with fail;try simp only[PT]
   go_roundw
   case rel=>exact⟨j+1,xs++[bz],r',_,_,a8,c8,rfl,xf,oT,by simp at vW;omega,YF,nA⟩
   case measure=>simp
theorem iM{l r:List UInt8}{s:List UInt8}(h:bC l=some (s,r)):r.length+2<=l.length:=by have:=(cg h).1;rw[this,List.length_append,cG];omega
def Rj:Value->Nat
 | .slice _ m _=>m
 | _=>0
theorem M0(xs:List (List UInt8)):JG xs=xs.flatMap uV:=by
 unfold JG uV;induction xs with
 | nil=>rfl
 | cons x r ih=>simp[ih]
theorem BO(kd:Int)(dP:kd≠8/\kd≠9)(a:Option Addr)(n c:Nat)(l:List UInt8)(w:World)(hr:ax w a n c (bs l))(hn:n<=65536):Calls prog 103 #[.int .i64 kd,.slice a n c] w (MV (kN kd l) w):=by
 have hl:l.length=n:=by have:=hr.len;rw[cV]at this;exact this
 have hz:Hid (kN kd l=(aX 2 l).bind fun i=>(cx bC i.2.length i.2).bind fun xs=>some {aN kd with id:=(i.1:Int),filters:=xs}):=af (by unfold kN;rw[if_neg dP.2,if_neg dP.1])
 have e9:(kd==9)=false:=by simpa using dP.2
 have e8:(kd==8)=false:=by simpa using dP.1
 clear dP;by_cases h2:n<2
 ·have d:decide ((n:Int)<2)=true:=decide_eq_true (by omega);have hno:Hid (kN kd l=none):=af (by rw[hz];unfold aX;rw[if_pos (by omega)];rfl);have hZ:ar (w.alloc (.cells bF 52)) w.heap.size bF 52:=ar.new _ _ _;have cH:=af (Pk.one (aN 0) bo);unfold bF at hZ;go_enter func103,ntmps103;go_wp2_with (refine wS 52 24 rfl w.heap.size _ ((aN 0).cells bo).toArray rfl rfl hZ rfl rfl cH.out ?_;intro w9 cC dN)
  refine bodyPost_ret (aS results103 rfl (aj cC 52 underlying52 rfl (by kernel_rfl)) rfl) rfl ?_;have b0:Below w.heap.size w (w.alloc (.cells bF 52)):=ai.alloc ah _;exact⟨b0.trans (dN.ag (by simp) (by simp)),.inl ⟨hno.out,_,rfl,rfl,cH.out⟩⟩
 skip;have d:decide ((n:Int)<2)=false:=decide_eq_false (by omega);obtain⟨x,y,l2,rfl⟩:∃x y l2,l=x::y::l2:=by
  match l,hl with
  | x::y::l2,_=>exact⟨x,y,l2,rfl⟩
  | [_],h=>simp at h;omega
  | [],h=>simp at h;omega
 have hl2:l2.length+2=n:=by simpa using hl
 obtain⟨bb,off,ha,hc0⟩:=hr.byte (show 0<n by omega);have hc1:w.cell? ⟨bb,off+1,none⟩=some (.int .u8 ((y.toNat:Nat):Int)):=by obtain⟨b2,o2,e2,h9⟩:=hr.byte (show 1<n by omega);rw[ha]at e2;cases e2;exact h9
 replace hc0:w.cell? ⟨bb,off,none⟩=some (.int .u8 ((x.toNat:Nat):Int)):=by simpa using hc0
 obtain⟨xz,ki⟩:=ae (((x.toNat:Nat):Int):Int);obtain⟨yz,jE⟩:=ae (((y.toNat:Nat):Int):Int);have hx0:0<=xz:=by omega
 have hx1:xz<256:=by have:=x.toNat_lt;omega
 have Vt:0<=yz:=by omega
 have Vu:yz<256:=by have:=y.toNat_lt;omega
 obtain⟨iz,YD⟩:=ae (256*xz+yz:Int);have qO:Hid (aX 2 (x::y::l2)=some (iz.toNat,l2)/\0<=iz):=af ⟨by rw[lL];congr 2;omega,by omega⟩;rw[ki]at hc0;rw[jE]at hc1;have HR:=af hr;have BC:Hid (∀W,Below w.heap.size w W->W.cell? ⟨bb,off,none⟩=some (.int .u8 xz)/\W.cell? ⟨bb,off+1,none⟩=some (.int .u8 yz)):=af fun W hb=>by obtain⟨b2,o2,e2,h9⟩:=(hr.ag hb).byte (show 0<n by omega);obtain⟨b3,o3,e3,h10⟩:=(hr.ag hb).byte (show 1<n by omega);rw[ha]at e2 e3;cases e2;cases e3;exact⟨by rw[<-ki];simpa using h9,by rw[<-jE];exact h10⟩
 have Z0:ar (w.alloc (.cells bF 52)) w.heap.size bF 52:=ar.new _ _ _;have B0:Hid (Below w.heap.size w (w.alloc (.cells bF 52))):=af (ai.alloc ah _);have hle:=hr.le;have hmx:=hr.max;subst ha;clear hr hc0 hc1 hl;replace Z0:=af Z0;replace ki:=af ki;replace jE:=af jE;go_enter func103,ntmps103;go_upto_region 3 with fail
 try simp only[PT]
 obtain⟨WD,di⟩:=ae ((w.alloc (.cells bF 52)).drew);have BD:Below w.heap.size w WD:=by rw[<-di];exact B0.drew
 have ZD:ar WD w.heap.size bF 52:=by rw[<-di];exact Z0.out
 have Ch:WD.heap.size=w.heap.size+1:=by rw[<-di];simp
 refine aH [(1000,fun w'=>w'.cell? ⟨bb,off,none⟩=some (.int .u8 xz)/\w'.cell? ⟨bb,off+1,none⟩=some (.int .u8 yz))] (by kernel_rfl) ⟨BC _ B0.drew,trivial⟩ fun KQ aL=>?_;try simp only[PT]
 change atR _ _ _ _ _ _ (w.alloc (.cells bF 52)).drew;rw[di];clear di B0 Z0;refine tQ [0,1] ?_;refine aG 2 rfl (by kernel_rfl) (by kernel_rfl) rfl rfl 0 rfl (by kernel_rfl) (.int .u8 xz) (fun w' hf=>by(have k0:=hf.1;go_simp<;>with_reducible rfl)) ?_;simp only[PT];refine tQ [3,4,5,6] ?_;refine aG 7 rfl (by kernel_rfl) (by kernel_rfl) rfl rfl 0 rfl (by kernel_rfl) (.int .u8 yz) (fun w' hf=>by(have k0:=hf.2;go_simp<;>with_reducible rfl)) ?_;simp only[PT];refine tQ [8,9] ?_;refine fM 10 rfl (by kernel_rfl) (.agg (({aN 0 with id:=iz}:Pk).cells bo).toArray) (by kernel_rfl) (fun w' _=>by rw[<-YD];kernel_rfl) ?_;try simp only[PT]
 refine sQ 11 fun K hK=>?_;simp only[GO];go_simp;refine hK _ _ ⟨⟨fun _=>BC.out _ (BD.alloc BD.size _),trivial⟩,?_⟩;clear hK K;try simp only[PT]
 refine sQ 12 fun K hK=>?_;simp only[GO];refine wW 52 24 rfl (w.heap.size+1) bF (({aN 0 with id:=iz}:Pk).cells bo).toArray rfl rfl (by rw[<-Ch];exact ar.new _ _ _) rfl rfl (Pk.one _ _) fun w3 hw3 hr3=>?_;have L3:rk w (({aN 0 with id:=iz}:Pk).cells bo).toArray w3:=
  ⟨(BD.alloc BD.size _).trans (hr3.ag (by simp;omega) (by simp)),(ZD.alloc _).aw hr3 (by simp),hw3⟩
 refine hK _ _ ⟨⟨fun _=>BC.out _ L3.low,trivial⟩,?_⟩;clear hK K;try simp only[PT]
 refine dQ (aL.out _ _ ?_);clear aL KQ;have BM:=fun W=>ck Tryz.fP Tryz.xh (some ⟨bb,off,none⟩) n c (2:Int) 2 rfl (by omega) W;have hrow2:Hid (∀W,ax W (some ⟨bb,off,none⟩) n c (bs (x::y::l2))->ax W (eJ (some ⟨bb,off,none⟩) c 2) l2.length (c-2) (bs l2)):=af fun W h=>by have h9:=h.from (i:=2) (by omega);rw[dV]at h9;rw[show n-2=l2.length by omega]at h9;exact h9
 rw[show n-2=l2.length by omega]at BM;have Gv:=af L3;clear L3 hw3 hr3 BD ZD Ch;go_wp2_with fail;go_loopw [1] (fun b wr=>∃(j:Nat)(xs:List (List UInt8))(r:List UInt8)(a':Option Addr)(c':Nat)(av:Option Addr)(cv:Nat),b=.slice a' r.length c'/\Hid (∀W,ax W (some ⟨bb,off,none⟩) n c (bs (x::y::l2))->ax W a' r.length c' (bs r))/\Hid (bJ bC j l2=some (xs,r))/\j+r.length<=l2.length/\Hid (rk w (({aN 0 with id:=iz,filters:=xs}:Pk).cells ⟨bQ,bQ,⟨av,j,cv⟩⟩).toArray wr)/\Hid (wr.ownsRow (w.heap.size+2) 9 1 (.slice av j cv) j (JG xs))) (fun b _=>Rj b)
 case atStart=>exact⟨0,[],l2,_,_,none,0,rfl,hrow2,af rfl,by omega,Gv,af (World.ownsRow_nil _ _ _ _)⟩
 case round=>
  obtain⟨j,xs,r,a',c',av,cv,rfl,mG,eA,vW,hL,how⟩:=hrel;obtain⟨wx,hwx⟩:∃W,W=wr:=⟨_,rfl⟩;subst hwx;cases r with
  | nil=>
   have KZ:=hL.out;obtain⟨zc,dA⟩:∃zc,(({aN 0 with id:=iz,filters:=xs}:Pk).cells ⟨bQ,bQ,⟨av,j,cv⟩⟩).toArray=zc:=⟨_,rfl⟩;rw[dA]at KZ;have dR:Hid (zc.size=24):=af (by rw[<-dA];rfl);have jZ:Hid ((prog.info? 52).map (·.size)=some zc.size):=af (by rw[dR];kernel_rfl);have cH:Hid (∀v∈zc.toList,v.oneCell'=true):=af (by rw[<-dA];exact Pk.one _ _);replace dA:=af dA;clear Gv hL hrow2 mG;go_wp2_with (first
    | (refine wL 52 rfl rfl KZ.pk underlying52 ?_ rfl rfl jZ.out)
    | (refine wS 52 24 rfl w.heap.size _ _ rfl rfl KZ.res dR.out rfl cH.out ?_;intro w9 cC dN))
   refine bodyPost_ret (aS results103 rfl (aj cC 52 underlying52 rfl jZ.out) rfl) rfl ?_;have hall:=(ej bC (fun l x r h=>by have:=iM h;omega) j l2.length l2 [] xs eA.out ah).1 rfl;refine⟨KZ.low.trans (dN.ag KZ.low.size (by simp)),.inr ⟨{aN kd with id:=iz,filters:=xs},⟨bQ,bQ,⟨av,j,cv⟩⟩,?_,by rw[<-dA.out];rfl,?_⟩⟩
   ·rw[hz,qO.1,Option.bind_some];dsimp only;rw[hall,Option.bind_some,Int.toNat_of_nonneg qO.2]
   refine⟨fun M _=>eN.nil _ M,fun M _=>eN.nil _ M,?_⟩;have xw:aW uV 1 wx av j cv xs:=by have h9:=how.out;rw[M0]at h9;exact cX (f:=uV) (size:=1) (fun _=>rfl) h9 (iL bC j l2 [] xs eA.out)
   exact fun M hM=>⟨xw.wrote dN (fun hne y hy hm=>by
    have h9:=(how.out.lt y.block (by rw[hy];rfl)).1;simp at hm;omega),fun hne y hy hm=>by
    have h9:=(how.out.lt y.block (by dsimp only at hy;rw[hy];rfl)).1;have h8:=hM _ hm;omega⟩
  | cons bx r'=>
   have EG:=mG.out wx (HR.ag hL.out.low);obtain⟨R,hR⟩:=ae (bx::r');have PG:Hid (R≠[]):=af (by rw[<-hR];simp);have hRl:0<R.length:=by rw[<-hR];simp
   rw[hR]at EG eA vW mG ⊢;clear hR;have Js:j<=65536:=by omega
   have Yt:R.length<=65536:=by omega
   have CT:=af (qM a' R.length c' R wx EG (by omega));have hgt:decide (0<(R.length:Int))=true:=decide_eq_true (by omega);clear EG Gv hrow2;go_wp2_with fail;refine CT.mono ?_;rintro e w4 ⟨hb4,⟨hno,rfl⟩ | ⟨s,r2,a2,c2,cq,rfl,hr2⟩⟩
   ·have KZ:=hL.out.step hb4;have hnone:Hid (kN kd (x::y::l2)=none):=af (by rw[hz,qO.1,Option.bind_some];dsimp only;rw[(ej bC (fun l x r h=>by have:=iM h;omega) j l2.length l2 R xs eA.out ah).2 PG.out hno];rfl)
    obtain⟨zc,dA⟩:∃zc,(({aN 0 with id:=iz,filters:=xs}:Pk).cells ⟨bQ,bQ,⟨av,j,cv⟩⟩).toArray=zc:=⟨_,rfl⟩;rw[dA]at KZ;have dR:Hid (zc.size=24):=af (by rw[<-dA];rfl);have jZ:Hid ((prog.info? 52).map (·.size)=some zc.size):=af (by rw[dR];kernel_rfl);have cH:Hid (∀v∈zc.toList,v.oneCell'=true):=af (by rw[<-dA];exact Pk.one _ _);replace dA:=af dA;clear hL mG hb4 hno hgt;go_wp2_with (first
     | (refine wL 52 rfl rfl KZ.pk underlying52 ?_ rfl rfl jZ.out)
     | (refine wS 52 24 rfl w.heap.size _ _ rfl rfl KZ.res dR.out rfl cH.out ?_;intro w9 cC dN))
    refine bodyPost_ret (aS results103 rfl (aj cC 52 underlying52 rfl jZ.out) rfl) rfl ?_;exact⟨KZ.low.trans (dN.ag KZ.low.size (by simp)),.inl ⟨hnone.out,zc,rfl,dR.out,cH.out⟩⟩
   have L4:=af (hL.out.step hb4);have dI:=aB how.out hb4;have Ei:=L4.size;have Vg:w4.cell? ⟨w.heap.size+1,23,none⟩=some (.slice av j cv):=L4.pk.cell 23;have oT:Hid (bJ bC (j+1) l2=some (xs++[s],r2)):=af (by rw[dy,eA.out,Option.bind_some,cq];rfl);have Uz:r2.length+2<=R.length:=iM cq;have xf:Hid (∀W,ax W (some ⟨bb,off,none⟩) n c (bs (x::y::l2))->ax W a2 r2.length c2 (bs r2)):=af fun W h=>hr2 W (mG.out W h);have t1:=af trivial;have t2:=af trivial;clear hb4 cq hr2 CT hL mG eA;go_wp2_with (first
    | (clear t1;at_builtin;refine dt rfl _ _ rfl Tryz.N7 (w.heap.size+2) _ j _ rfl dI (.string ⟨s.toArray⟩) rfl rfl (by omega) (by omega) (by omega) ?_;intro v8 w8 tA JB;obtain⟨a8,c8,rfl⟩:=aA tA;have L8:=L4.grow JB (fun g e=>(dI.lt g e).1))
    | (clear t2;refine aq rfl 50 52 _ _ rfl (fun w=>by kernel_rfl) (w.heap.size+1) 23 _ _ rfl rfl L8.pk (by exact(by decide:23<24)) rfl rfl ?_;intro w9 Gr cC))
   have L9:Hid (rk w (({aN 0 with id:=iz,filters:=xs++[s]}:Pk).cells ⟨bQ,bQ,⟨a8,j+1,c8⟩⟩).toArray w9):=af (L8.put Gr cC);have nA:Hid (w9.ownsRow (w.heap.size+2) 9 1 (.slice a8 (j+1) c8) (j+1) (JG (xs++[s]))):=af (by have h9:=jY tA cC (by simp);unfold JG at h9 ⊢;rw[List.map_append];exact h9)
   try simp only[PT]
   go_roundw
   case rel=>exact⟨j+1,xs++[s],r2,a2,c2,a8,c8,rfl,xf,oT,by omega,L9,nA⟩
   case measure=>exact(show r2.length<R.length by omega)
theorem nI{l r:List UInt8}{x:bM}(h:dB l=some (x,r)):r.length+3<=l.length:=by have:=u1 h;rw[this,List.length_append];unfold cF;rw[List.length_append,cG,aO];omega
theorem BP(a:Option Addr)(n c:Nat)(l:List UInt8)(w:World)(hr:ax w a n c (bs l))(hn:n<=65536):Calls prog 103 #[.int .i64 8,.slice a n c] w (MV (kN 8 l) w):=by
 have hl:l.length=n:=by have:=hr.len;rw[cV]at this;exact this
 have hz:Hid (kN 8 l=(aX 2 l).bind fun i=>(cx dB i.2.length i.2).bind fun xs=>some {aN 8 with id:=(i.1:Int),wants:=xs}):=af (by
  unfold kN;rw[if_neg (by decide),if_pos rfl];unfold l5;cases aX 2 l with
  | none=>rfl
  |some i=>simp only[Option.bind_some];cases cx dB i.2.length i.2<;>rfl)
 by_cases h2:n<2
 ·have d:decide ((n:Int)<2)=true:=decide_eq_true (by omega);have hno:Hid (kN 8 l=none):=af (by rw[hz];unfold aX;rw[if_pos (by omega)];rfl);have hZ:ar (w.alloc (.cells bF 52)) w.heap.size bF 52:=ar.new _ _ _;have cH:=af (Pk.one (aN 0) bo);unfold bF at hZ;go_enter func103,ntmps103;go_wp2_with (refine wS 52 24 rfl w.heap.size _ ((aN 0).cells bo).toArray rfl rfl hZ rfl rfl cH.out ?_;intro w9 cC dN)
  refine bodyPost_ret (aS results103 rfl (aj cC 52 underlying52 rfl (by kernel_rfl)) rfl) rfl ?_;have b0:Below w.heap.size w (w.alloc (.cells bF 52)):=ai.alloc ah _;exact⟨b0.trans (dN.ag (by simp) (by simp)),.inl ⟨hno.out,_,rfl,rfl,cH.out⟩⟩
 skip;have d:decide ((n:Int)<2)=false:=decide_eq_false (by omega);obtain⟨x,y,l2,rfl⟩:∃x y l2,l=x::y::l2:=by
  match l,hl with
  | x::y::l2,_=>exact⟨x,y,l2,rfl⟩
  | [_],h=>simp at h;omega
  | [],h=>simp at h;omega
 have hl2:l2.length+2=n:=by simpa using hl
 obtain⟨bb,off,ha,hc0⟩:=hr.byte (show 0<n by omega);have hc1:w.cell? ⟨bb,off+1,none⟩=some (.int .u8 ((y.toNat:Nat):Int)):=by obtain⟨b2,o2,e2,h9⟩:=hr.byte (show 1<n by omega);rw[ha]at e2;cases e2;exact h9
 replace hc0:w.cell? ⟨bb,off,none⟩=some (.int .u8 ((x.toNat:Nat):Int)):=by simpa using hc0
 obtain⟨xz,ki⟩:=ae (((x.toNat:Nat):Int):Int);obtain⟨yz,jE⟩:=ae (((y.toNat:Nat):Int):Int);have hx0:0<=xz:=by omega
 have hx1:xz<256:=by have:=x.toNat_lt;omega
 have Vt:0<=yz:=by omega
 have Vu:yz<256:=by have:=y.toNat_lt;omega
 obtain⟨iz,YD⟩:=ae (256*xz+yz:Int);have qO:Hid (aX 2 (x::y::l2)=some (iz.toNat,l2)/\0<=iz):=af ⟨by rw[lL];congr 2;omega,by omega⟩;rw[ki]at hc0;rw[jE]at hc1;have HR:=af hr;have BC:Hid (∀W,Below w.heap.size w W->W.cell? ⟨bb,off,none⟩=some (.int .u8 xz)/\W.cell? ⟨bb,off+1,none⟩=some (.int .u8 yz)):=af fun W hb=>by obtain⟨b2,o2,e2,h9⟩:=(hr.ag hb).byte (show 0<n by omega);obtain⟨b3,o3,e3,h10⟩:=(hr.ag hb).byte (show 1<n by omega);rw[ha]at e2 e3;cases e2;cases e3;exact⟨by rw[<-ki];simpa using h9,by rw[<-jE];exact h10⟩
 have Z0:ar (w.alloc (.cells bF 52)) w.heap.size bF 52:=ar.new _ _ _;have B0:Hid (Below w.heap.size w (w.alloc (.cells bF 52))):=af (ai.alloc ah _);have hle:=hr.le;have hmx:=hr.max;subst ha;clear hr hc0 hc1 hl;replace Z0:=af Z0;replace ki:=af ki;replace jE:=af jE;go_enter func103,ntmps103;go_upto_region 3 with fail
 try simp only[PT]
 obtain⟨WD,di⟩:=ae ((w.alloc (.cells bF 52)).drew);have BD:Below w.heap.size w WD:=by rw[<-di];exact B0.drew
 have ZD:ar WD w.heap.size bF 52:=by rw[<-di];exact Z0.out
 have Ch:WD.heap.size=w.heap.size+1:=by rw[<-di];simp
 refine aH [(1000,fun w'=>w'.cell? ⟨bb,off,none⟩=some (.int .u8 xz)/\w'.cell? ⟨bb,off+1,none⟩=some (.int .u8 yz))] (by kernel_rfl) ⟨BC _ B0.drew,trivial⟩ fun KQ aL=>?_;try simp only[PT]
 change atR _ _ _ _ _ _ (w.alloc (.cells bF 52)).drew;rw[di];clear di B0 Z0;refine tQ [0,1] ?_;refine aG 2 rfl (by kernel_rfl) (by kernel_rfl) rfl rfl 0 rfl (by kernel_rfl) (.int .u8 xz) (fun w' hf=>by(have k0:=hf.1;go_simp<;>with_reducible rfl)) ?_;simp only[PT];refine tQ [3,4,5,6] ?_;refine aG 7 rfl (by kernel_rfl) (by kernel_rfl) rfl rfl 0 rfl (by kernel_rfl) (.int .u8 yz) (fun w' hf=>by(have k0:=hf.2;go_simp<;>with_reducible rfl)) ?_;simp only[PT];refine tQ [8,9] ?_;refine fM 10 rfl (by kernel_rfl) (.agg (({aN 0 with id:=iz}:Pk).cells bo).toArray) (by kernel_rfl) (fun w' _=>by rw[<-YD];kernel_rfl) ?_;try simp only[PT]
 refine sQ 11 fun K hK=>?_;simp only[GO];go_simp;refine hK _ _ ⟨⟨fun _=>BC.out _ (BD.alloc BD.size _),trivial⟩,?_⟩;clear hK K;try simp only[PT]
 refine sQ 12 fun K hK=>?_;simp only[GO];refine wW 52 24 rfl (w.heap.size+1) bF (({aN 0 with id:=iz}:Pk).cells bo).toArray rfl rfl (by rw[<-Ch];exact ar.new _ _ _) rfl rfl (Pk.one _ _) fun w3 hw3 hr3=>?_;have L3:rk w (({aN 0 with id:=iz}:Pk).cells bo).toArray w3:=
  ⟨(BD.alloc BD.size _).trans (hr3.ag (by simp;omega) (by simp)),(ZD.alloc _).aw hr3 (by simp),hw3⟩
 refine hK _ _ ⟨⟨fun _=>BC.out _ L3.low,trivial⟩,?_⟩;clear hK K;try simp only[PT]
 refine dQ (aL.out _ _ ?_);clear aL KQ;have BM:=fun W=>ck Tryz.fP Tryz.xh (some ⟨bb,off,none⟩) n c (2:Int) 2 rfl (by omega) W;have hrow2:Hid (∀W,ax W (some ⟨bb,off,none⟩) n c (bs (x::y::l2))->ax W (eJ (some ⟨bb,off,none⟩) c 2) l2.length (c-2) (bs l2)):=af fun W h=>by have h9:=h.from (i:=2) (by omega);rw[dV]at h9;rw[show n-2=l2.length by omega]at h9;exact h9
 rw[show n-2=l2.length by omega]at BM;have Gv:=af L3;clear L3 hw3 hr3 BD ZD Ch;go_wp2_with fail;go_loopw [1] (fun b wr=>∃(j:Nat)(xs:List bM)(r:List UInt8)(a':Option Addr)(c':Nat)(av:Option Addr)(cv:Nat),b=.slice a' r.length c'/\Hid (∀W,ax W (some ⟨bb,off,none⟩) n c (bs (x::y::l2))->ax W a' r.length c' (bs r))/\Hid (bJ dB j l2=some (xs,r))/\j+r.length<=l2.length/\Hid (rk w (({aN 0 with id:=iz,wants:=xs}:Pk).cells ⟨⟨av,j,cv⟩,bQ,bQ⟩).toArray wr)/\Hid (wr.ownsRow (w.heap.size+2) 169 2 (.slice av j cv) j (xs.flatMap bM.cl))) (fun b _=>Rj b)
 case atStart=>exact⟨0,[],l2,_,_,none,0,rfl,hrow2,af rfl,by omega,Gv,af (World.ownsRow_nil _ _ _ _)⟩
 case round=>
  obtain⟨j,xs,r,a',c',av,cv,rfl,mG,eA,vW,hL,how⟩:=hrel;obtain⟨wx,hwx⟩:∃W,W=wr:=⟨_,rfl⟩;subst hwx;cases r with
  | nil=>
   have KZ:=hL.out;obtain⟨zc,dA⟩:∃zc,(({aN 0 with id:=iz,wants:=xs}:Pk).cells ⟨⟨av,j,cv⟩,bQ,bQ⟩).toArray=zc:=⟨_,rfl⟩;rw[dA]at KZ;have dR:Hid (zc.size=24):=af (by rw[<-dA];rfl);have jZ:Hid ((prog.info? 52).map (·.size)=some zc.size):=af (by rw[dR];kernel_rfl);have cH:Hid (∀v∈zc.toList,v.oneCell'=true):=af (by rw[<-dA];exact Pk.one _ _);replace dA:=af dA;clear Gv hL hrow2 mG;go_wp2_with (first
    | (refine wL 52 rfl rfl KZ.pk underlying52 ?_ rfl rfl jZ.out)
    | (refine wS 52 24 rfl w.heap.size _ _ rfl rfl KZ.res dR.out rfl cH.out ?_;intro w9 cC dN))
   refine bodyPost_ret (aS results103 rfl (aj cC 52 underlying52 rfl jZ.out) rfl) rfl ?_;have hall:=(ej dB (fun l x r h=>by have:=nI h;omega) j l2.length l2 [] xs eA.out ah).1 rfl;refine⟨KZ.low.trans (dN.ag KZ.low.size (by simp)),.inr ⟨{aN 8 with id:=iz,wants:=xs},⟨⟨av,j,cv⟩,bQ,bQ⟩,?_,by rw[<-dA.out];rfl,?_⟩⟩
   ·rw[hz,qO.1,Option.bind_some];dsimp only;rw[hall,Option.bind_some,Int.toNat_of_nonneg qO.2]
   refine⟨?_,fun M _=>eN.nil _ M,fun M _=>eN.nil _ M⟩;have xw:aW bM.cl 2 wx av j cv xs:=by have h9:=how.out;exact cX (f:=bM.cl) (size:=2) (fun _=>rfl) h9 (iL dB j l2 [] xs eA.out)
   exact fun M hM=>⟨xw.wrote dN (fun hne y hy hm=>by
    have h9:=(how.out.lt y.block (by rw[hy];rfl)).1;simp at hm;omega),fun hne y hy hm=>by
    have h9:=(how.out.lt y.block (by dsimp only at hy;rw[hy];rfl)).1;have h8:=hM _ hm;omega⟩
  | cons bx r'=>
   have EG:=mG.out wx (HR.ag hL.out.low);obtain⟨R,hR⟩:=ae (bx::r');have PG:Hid (R≠[]):=af (by rw[<-hR];simp);have hRl:0<R.length:=by rw[<-hR];simp
   rw[hR]at EG eA vW mG ⊢;clear hR;have Js:j<=65536:=by omega
   have Yt:R.length<=65536:=by omega
   have CT:=af (qM a' R.length c' R wx EG (by omega));have hgt:decide (0<(R.length:Int))=true:=decide_eq_true (by omega);clear EG Gv hrow2;go_wp2_with fail;refine CT.mono ?_;rintro e w4 ⟨hb4,⟨hno,rfl⟩ | ⟨s,r2,a2,c2,cq,rfl,hr2⟩⟩
   ·have KZ:=hL.out.step hb4;have hnone:Hid (kN 8 (x::y::l2)=none):=af (by rw[hz,qO.1,Option.bind_some];dsimp only;rw[(ej dB (fun l x r h=>by have:=nI h;omega) j l2.length l2 R xs eA.out ah).2 PG.out (by unfold dB;rw[hno];rfl)];rfl)
    obtain⟨zc,dA⟩:∃zc,(({aN 0 with id:=iz,wants:=xs}:Pk).cells ⟨⟨av,j,cv⟩,bQ,bQ⟩).toArray=zc:=⟨_,rfl⟩;rw[dA]at KZ;have dR:Hid (zc.size=24):=af (by rw[<-dA];rfl);have jZ:Hid ((prog.info? 52).map (·.size)=some zc.size):=af (by rw[dR];kernel_rfl);have cH:Hid (∀v∈zc.toList,v.oneCell'=true):=af (by rw[<-dA];exact Pk.one _ _);replace dA:=af dA;clear hL mG hb4 hno hgt;go_wp2_with (first
     | (refine wL 52 rfl rfl KZ.pk underlying52 ?_ rfl rfl jZ.out)
     | (refine wS 52 24 rfl w.heap.size _ _ rfl rfl KZ.res dR.out rfl cH.out ?_;intro w9 cC dN))
    refine bodyPost_ret (aS results103 rfl (aj cC 52 underlying52 rfl jZ.out) rfl) rfl ?_;exact⟨KZ.low.trans (dN.ag KZ.low.size (by simp)),.inl ⟨hnone.out,zc,rfl,dR.out,cH.out⟩⟩
   have L4:=af (hL.out.step hb4);have dI:=af (aB how.out hb4);have Uz:r2.length+2<=R.length:=iM cq;have xf:Hid (∀W,ax W (some ⟨bb,off,none⟩) n c (bs (x::y::l2))->ax W a2 r2.length c2 (bs r2)):=af fun W h=>hr2 W (mG.out W h);have cq:=af cq;clear hb4 hr2 CT hL;cases r2 with
   | nil=>
    have KZ:=L4.out;have hnone:Hid (kN 8 (x::y::l2)=none):=af (by rw[hz,qO.1,Option.bind_some];dsimp only;rw[(ej dB (fun l x r h=>by have:=nI h;omega) j l2.length l2 R xs eA.out ah).2 PG.out (by unfold dB;rw[cq.out];rfl)];rfl)
    obtain⟨zc,dA⟩:∃zc,(({aN 0 with id:=iz,wants:=xs}:Pk).cells ⟨⟨av,j,cv⟩,bQ,bQ⟩).toArray=zc:=⟨_,rfl⟩;rw[dA]at KZ;have dR:Hid (zc.size=24):=af (by rw[<-dA];rfl);have jZ:Hid ((prog.info? 52).map (·.size)=some zc.size):=af (by rw[dR];kernel_rfl);have cH:Hid (∀v∈zc.toList,v.oneCell'=true):=af (by rw[<-dA];exact Pk.one _ _);replace dA:=af dA;clear mG L4;go_wp2_with (first
     | (refine wL 52 rfl rfl KZ.pk underlying52 ?_ rfl rfl jZ.out)
     | (refine wS 52 24 rfl w.heap.size _ _ rfl rfl KZ.res dR.out rfl cH.out ?_;intro w9 cC dN))
    refine bodyPost_ret (aS results103 rfl (aj cC 52 underlying52 rfl jZ.out) rfl) rfl ?_;exact⟨KZ.low.trans (dN.ag KZ.low.size (by simp)),.inl ⟨hnone.out,zc,rfl,dR.out,cH.out⟩⟩
   | cons bx r3=>
    have EG:=xf w4 (HR.ag L4.low);obtain⟨b3,o3,Ri,hb3⟩:=EG.byte (show 0<(bx::r3).length by simp);subst Ri;have Ux:=EG.le;have hb3:w4.cell? ⟨b3,o3,none⟩=some (.int .u8 ((bx.toNat:Nat):Int)):=by simpa using hb3
    obtain⟨bz,MW⟩:=ae (((bx.toNat:Nat):Int):Int);have ac4:0<=bz:=by omega
    have ac5:bz<256:=by have:=bx.toNat_lt;omega
    rw[MW]at hb3;have oT:Hid (bJ dB (j+1) l2=some (xs++[⟨s,bz⟩],r3)):=af (by rw[dy,eA.out,Option.bind_some];unfold dB;rw[cq.out,Option.bind_some];dsimp only;unfold aX;rw[if_neg (by simp)];simp[jO,MW])
    have ac7:Hid (∀W,ax W (some ⟨bb,off,none⟩) n c (bs (x::y::l2))->ax W (eJ (some ⟨b3,o3,none⟩) c2 1) r3.length (c2-1) (bs r3)):=af fun W h=>by have h9:=(xf W h).from (i:=1) (by simp);rw[dV]at h9;simpa using h9
    have MX:(bx::r3).length=r3.length+1:=rfl;rw[MX]at Ux Uz ⊢;have vN:=fun W=>ck Tryz.fP Tryz.xh (some ⟨b3,o3,none⟩) (r3.length+1) c2 (1:Int) 1 rfl (by omega) W;rw[Nat.add_sub_cancel]at vN;have YE:r3.length<=65536:=by omega
    have aij:(((r3.length+1:Nat):Int)==0)=false:=by simpa using(show((r3.length+1:Nat):Int)≠0 by omega)
    have aik:(((r3.length:Nat):Int)+1==0)=false:=by simpa using(show((r3.length:Nat):Int)+1≠0 by omega)
    replace MW:=af MW;clear EG mG eA;go_upto_region 13 with fail;try simp only[PT]
    have LD:=L4.step ai.drew;have EH:w4.drew.cell? ⟨b3,o3,none⟩=some (.int .u8 bz):=hb3;obtain⟨WG,Gu⟩:=ae w4.drew;have pP:WG.ownsRow (w.heap.size+2) 169 2 (.slice av j cv) j (xs.flatMap bM.cl):=by rw[<-Gu];exact aB dI.out ai.drew
    have Uy:Hid (∀W,Below w.heap.size w W->W.cell? ⟨b3,o3,none⟩=some (.int .u8 bz)):=af fun W hb=>by obtain⟨b4,o4,e4,h9⟩:=(xf W (HR.ag hb)).byte (show 0<(bx::r3).length by simp);cases e4;rw[<-MW.out];simpa using h9
    refine aH [(13,fun w'=>ar w' (w.heap.size+1) (({aN 0 with id:=iz,wants:=xs}:Pk).cells ⟨⟨av,j,cv⟩,bQ,bQ⟩).toArray 52),(1000,fun w'=>w'.cell? ⟨b3,o3,none⟩=some (.int .u8 bz))] (by kernel_rfl) ⟨LD.pk,EH,trivial⟩ fun KQ aL=>?_;try simp only[PT]
    rw[Gu]at LD EH ⊢;clear Gu hb3;refine tQ [0] ?_;refine aG 1 rfl (by kernel_rfl) (by kernel_rfl) rfl rfl 0 rfl (by kernel_rfl) (.slice av j cv) (fun w' hf=>by(have k0:w'.cell? ⟨w.heap.size+1,21,none⟩=some (.slice av j cv):=hf.cell 21;go_simp<;>with_reducible rfl)) ?_;simp only[PT];refine tQ [2,3,4] ?_;refine aG 5 rfl (by kernel_rfl) (by kernel_rfl) rfl rfl 1 rfl (by kernel_rfl) (.int .u8 bz) (fun w' hf=>by(have k0:=hf;go_simp<;>with_reducible rfl)) ?_;simp only[PT];refine tQ [6,7,10] ?_;refine fX 11 rfl (by kernel_rfl) (by kernel_rfl) rfl Tryz.fP _ vN ?_;try simp only[PT]
    refine sQ 8 fun K hK=>?_;simp only[GO];refine dF _ rfl Tryz.ZV (by decide) (by decide) (.agg #[.string ⟨s.toArray⟩,.int .i64 bz]) rfl rfl ?_;have rj:=(Below.refl WG.heap.size WG).alloc ah (.cells #[.string ⟨s.toArray⟩,.int .i64 bz] 169);have LE:=LD.step rj;have MZ:=aB pP rj;have mm:(WG.alloc (.cells #[.string ⟨s.toArray⟩,.int .i64 bz] 169)).ownsRow WG.heap.size 169 2 (.slice (some ⟨WG.heap.size,0,none⟩) 1 1) 1 [.string ⟨s.toArray⟩,.int .i64 bz]:=World.ownsRow_lit WG #[.string ⟨s.toArray⟩,.int .i64 bz] 1 ah (by decide) rfl;refine hK _ _ ⟨⟨fun _=>LE.pk,fun _=>Uy.out _ LE.low,trivial⟩,?_⟩;clear hK K;try simp only[PT]
    refine sQ 9 fun K hK=>?_;simp only[GO];refine aR _ _ rfl Tryz.ZV (by decide) (w.heap.size+2) _ j _ rfl MZ WG.heap.size _ 1 _ rfl mm (by intro u hu;simp at hu;rcases hu with rfl | rfl<;>rfl) (by omega) (by omega) LE.size fun v8 w8 tA JB hn8=>?_;have L8:=LE.grow JB (fun g e=>(MZ.lt g e).1);obtain⟨a8,c8,rfl⟩:=aA tA;refine hK _ _ ⟨⟨fun _=>L8.pk,fun _=>Uy.out _ L8.low,trivial⟩,?_⟩;clear hK K;try simp only[PT]
    refine tQ [12] ?_;refine sQ 13 fun K hK=>?_;simp only[GO];refine aC 48 52 _ _ rfl (fun w=>by kernel_rfl) (w.heap.size+1) 21 _ _ rfl rfl L8.pk (by exact(by decide:21<24)) rfl rfl ?_;intro w9 Gr cC;have L9:rk w (({aN 0 with id:=iz,wants:=xs++[⟨s,bz⟩]}:Pk).cells ⟨⟨a8,j+1,c8⟩,bQ,bQ⟩).toArray w9:=L8.put Gr cC;have nA:Hid (w9.ownsRow (w.heap.size+2) 169 2 (.slice a8 (j+1) c8) (j+1) ((xs++[(⟨s,bz⟩:bM)]).flatMap bM.cl)):=af (by have h9:=jY tA cC (by simp);rw[List.flatMap_append];simpa[bM.cl]using h9)
    refine hK _ _ ⟨⟨(fun h=>by cases h),fun _=>Uy.out _ L9.low,trivial⟩,?_⟩;clear hK K;try simp only[PT]
    refine tQ [14] ?_;refine dQ (aL.out _ _ ?_);clear aL KQ;have YF:=af L9;clear L9 Gr cC L8 tA JB LE MZ LD pP EH rj dI how mm;go_wp2_with fail;try simp only[PT]
    go_roundw
    case rel=>exact⟨j+1,xs++[⟨s,bz⟩],r3,_,_,a8,c8,rfl,ac7,oT,by omega,YF,nA⟩
    case measure=>exact(show r3.length<R.length by omega)
theorem nJ(f m:Nat)(hm:0<m):decide ((((f:Int).tdiv (m:Int)).tmod 2)=1)=has f m:=by unfold has;rw[Int.tdiv_eq_ediv_of_nonneg (by omega),Int.tmod_eq_emod_of_nonneg (Int.ediv_nonneg (by omega) (by omega))];refine decide_eq_decide.2 ?_;rw[show((f:Int) / (m:Int))=((f / m:Nat):Int)from rfl];omega
structure mJ (B:Nat)(W:World)(a:Option Addr)(n c:Nat)(xs:List (List UInt8)):Prop where
 row:ax W a n c (JG xs)
 eM:∀y,a=some y->B<=y.block
theorem mJ.wrote{B:Nat}{W W':World}{a:Option Addr}{n c:Nat}{xs:List (List UInt8)}(h:mJ B W a n c xs){M:List Nat}(hw:ak M W W')(hM:∀x∈M,x<B):mJ B W' a n c xs:=
 ⟨h.row.wrote hw (fun x e hm=>by have:=h.eM x e;have:=hM _ hm;omega),h.eM⟩
theorem mJ.ag{B:Nat}{W W':World}{a:Option Addr}{n c:Nat}{xs:List (List UInt8)}(h:mJ B W a n c xs)(hb:Below W.heap.size W W'):mJ B W' a n c xs:=⟨h.row.ag hb,h.eM⟩
theorem mJ.from{B:Nat}{W:World}{a:Option Addr}{n c:Nat}{xs:List (List UInt8)}(h:mJ B W a n c xs){i:Nat}(hi:i<=n):mJ B W (eJ a c i) (n-i) (c-i) (xs.drop i):=by
 refine⟨?_,?_⟩
 ·have h9:=h.row.from hi;unfold JG at h9 ⊢;rw[<-List.map_drop]at h9;exact h9
 intro y e;unfold eJ at e;split at e
 ·exact h.eM y e
 cases a with
 | none=>cases e
 |some z=>simp at e;subst e;have:=h.eM z rfl;unfold Addr.add;split<;>exact this
theorem mJ.get{B:Nat}{W:World}{a:Option Addr}{n c:Nat}{xs:List (List UInt8)}(h:mJ B W a n c xs){i:Nat}(hi:i<n):∃b off,a=some ⟨b,off,none⟩/\W.cell? ⟨b,off+i,none⟩=some (.string ⟨(xs[i]?.getD []).toArray⟩):=by obtain⟨b,off,ha,hc⟩:=h.row.cells i hi;refine⟨b,off,ha,?_⟩;have hl:=h.row.len;rw[hc];unfold JG at hl ⊢;rw[List.length_map]at hl;rw[List.getElem?_map,List.getElem?_eq_getElem (by omega)];rfl
theorem Tryz.Jf:prog.underlying 50=some (.slice (prog.elem 50)):=by kernel_rfl
theorem Tryz.szS(W:World):(sizeOf (prog.elem 50)).run prog W=.ok 1 W:=by kernel_rfl
structure Vv (w:World)(P:Pk)(xs:List (List UInt8))(v:Value)(W:World):Prop where
 lk:rk w (P.cells bo).toArray W
 row:∃a c,v=.slice a xs.length c/\mJ (w.heap.size+2) W a xs.length c xs
theorem mJ.gK{B:Nat}{W:World}{e:TypeId}{a:Option Addr}{n c:Nat}{xs:List (List UInt8)}(h:W.ownsRow B e 1 (.slice a n c) n (JG xs)):mJ B W a n c xs:=by obtain⟨a2,c2,e2,h2⟩:=ax.gK h;cases e2;exact⟨h2,fun y e=>(h.lt y.block (by rw[e];rfl)).1⟩
theorem xg(a:Option Addr)(n c:Nat)(l:List UInt8)(w:World)(hr:ax w a n c (bs l))(hn:n<=70368744177664):Calls prog 101 #[.slice a n c] w (MV (pD l) w):=by
 have hl:l.length=n:=by have:=hr.len;rw[cV]at this;exact this
 have hZ:ar (w.alloc (.cells bF 52)) w.heap.size bF 52:=ar.new _ _ _;have cH:=af (Pk.one (aN 0) bo);have b0:Hid (Below w.heap.size w (w.alloc (.cells bF 52))):=af (ai.alloc ah _);by_cases h2:n<10
 ·have d:decide ((n:Int)<10)=true:=decide_eq_true (by omega);have hno:Hid (pD l=none):=af (by unfold pD;rw[if_pos (Or.inl (by omega))]);unfold bF at hZ;go_enter func101,ntmps101;go_wp2_with (refine wS 52 24 rfl w.heap.size _ ((aN 0).cells bo).toArray rfl rfl hZ rfl rfl cH.out ?_;intro w9 cC dN)
  refine bodyPost_ret (aS results101 rfl (aj cC 52 underlying52 rfl (by kernel_rfl)) rfl) rfl ?_;exact⟨b0.trans (dN.ag (by simp) (by simp)),.inl ⟨hno.out,_,rfl,rfl,cH.out⟩⟩
 have d:decide ((n:Int)<10)=false:=decide_eq_false (by omega);have MQ:(7:Int)<=(c:Int):=by have:=hr.le;omega
 have vN:∀W,(Instr.slice 22 (.slice a n c) none (some (.int .i64 7)) none).run prog W=.ok (.slice a 7 c) W:=fun W=>by rw[run_slice_h W 22 a n c Tryz.fP .i64 (7:Int) (by omega) MQ,Tryz.xh];simp[Result.andThen,sliced,Addr.add]
 have hcv:=dX (l:=l.take 7) (by have h9:=(hr.ag b0.out).take 7 (by omega);rw[pV]at h9;exact h9);obtain⟨hs,hhs⟩:=ae ((⟨(l.take 7).toArray⟩:ByteArray):ByteArray);have Vm:hs.toList=l.take 7:=by rw[<-hhs];simp
 rw[hhs]at hcv;clear hhs;simp only[bF,aN,Pk.cells,bo,bQ,dx]at hcv;by_cases hq:l.take 7=Ox
 ·have hne:(hs.toList==[0,4,77,81,84,84,4])=true:=by rw[Vm,hq];rfl
  have ada:(!hs.toList==[0,4,77,81,84,84,4])=false:=by rw[hne];rfl
  obtain⟨bb,off,ha,hc0⟩:=hr.byte (show 7<n by omega);subst ha;have BC:Hid (∀W,Below w.heap.size w W->∀i,(h:i<n)->W.cell? ⟨bb,off+i,none⟩=some (.int .u8 ((((l[i]?.getD 0).toNat:Nat):Int)))):=af fun W hb i hi=>by obtain⟨b2,o2,e2,h9⟩:=(hr.ag hb).byte hi;cases e2;exact h9
  obtain⟨fn,hfn⟩:=ae ((l[7]?.getD 0).toNat:Nat);obtain⟨k1,gW⟩:=ae ((l[8]?.getD 0).toNat:Nat);obtain⟨k2,hk2⟩:=ae ((l[9]?.getD 0).toNat:Nat);have ail:fn<256:=by rw[<-hfn];exact UInt8.toNat_lt _
  have adb:k1<256:=by rw[<-gW];exact UInt8.toNat_lt _
  have ade:k2<256:=by rw[<-hk2];exact UInt8.toNat_lt _
  obtain⟨fz,hfz⟩:=ae ((fn:Int):Int);obtain⟨z1,hz1⟩:=ae ((k1:Int):Int);obtain⟨z2,hz2⟩:=ae ((k2:Int):Int);obtain⟨kz,Mr⟩:=ae (256*z1+z2:Int);have BF:Hid (∀W,Below w.heap.size w W->W.cell? ⟨bb,off+7,none⟩=some (.int .u8 fz)/\W.cell? ⟨bb,off+8,none⟩=some (.int .u8 z1)/\W.cell? ⟨bb,off+9,none⟩=some (.int .u8 z2)):=af fun W hb=>by
   refine⟨?_,?_,?_⟩
   ·rw[BC W hb 7 (by omega),hfn,hfz]
   ·rw[BC W hb 8 (by omega),gW,hz1]
   rw[BC W hb 9 (by omega),hk2,hz2]
  have zf:0<=fz:=by omega
  have Jw:fz<256:=by omega
  have hx0:0<=z1:=by omega
  have hx1:z1<256:=by omega
  have Vt:0<=z2:=by omega
  have Vu:z2<256:=by omega
  have kc7:=(BF _ b0.out).1;simp only[bF,aN,Pk.cells,bo,bQ,dx]at kc7;have hle:=hr.le;have hmx:=hr.max;have HR:=af hr;have UA:Hid (pD l=(bJ bC (xH fn) (l.drop 10)).bind fun x=>some (DF fn kz x.1)):=af (by unfold pD;rw[if_neg (by rintro(h | h)<;>first | omega | exact h hq),hfn,gW,hk2,<-Mr,<-hz1,<-hz2];rfl)
  obtain⟨UB,Rk⟩:=ae (fz.tdiv 128:Int);obtain⟨PH,Rl⟩:=ae (UB.tmod 2:Int);have UC:0<=UB/\UB<256:=by rw[<-Rk,Int.tdiv_eq_ediv_of_nonneg zf];omega
  obtain⟨UD,adf⟩:=UC;have UE:0<=PH/\PH<4:=by rw[<-Rl,Int.tmod_eq_emod_of_nonneg UD];omega
  obtain⟨adg,adh⟩:=UE;obtain⟨q64,wo⟩:=ae (fz.tdiv 64:Int);obtain⟨m64,YG⟩:=ae (q64.tmod 2:Int);have YH:0<=q64/\q64<256:=by rw[<-wo,Int.tdiv_eq_ediv_of_nonneg zf];omega
  obtain⟨YI,afJ⟩:=YH;have YJ:0<=m64/\m64<4:=by rw[<-YG,Int.tmod_eq_emod_of_nonneg YI];omega
  obtain⟨afK,afL⟩:=YJ;obtain⟨q32,YK⟩:=ae (fz.tdiv 32:Int);obtain⟨m32,YL⟩:=ae (q32.tmod 2:Int);have YM:0<=q32/\q32<256:=by rw[<-YK,Int.tdiv_eq_ediv_of_nonneg zf];omega
  obtain⟨YN,afM⟩:=YM;have YO:0<=m32/\m32<4:=by rw[<-YL,Int.tmod_eq_emod_of_nonneg YN];omega
  obtain⟨afN,afO⟩:=YO;obtain⟨q8,hq8⟩:=ae (fz.tdiv 8:Int);obtain⟨m8,hm8⟩:=ae (q8.tmod 4:Int);have adk:0<=q8/\q8<256:=by rw[<-hq8,Int.tdiv_eq_ediv_of_nonneg zf];omega
  obtain⟨YP,aim⟩:=adk;have adl:0<=m8/\m8<4:=by rw[<-hm8,Int.tmod_eq_emod_of_nonneg YP];omega
  obtain⟨ain,aio⟩:=adl;obtain⟨q4,U9⟩:=ae (fz.tdiv 4:Int);obtain⟨m4,I9⟩:=ae (q4.tmod 2:Int);have adn:0<=q4/\q4<256:=by rw[<-U9,Int.tdiv_eq_ediv_of_nonneg zf];omega
  obtain⟨ado,aip⟩:=adn;have adp:0<=m4/\m4<4:=by rw[<-I9,Int.tmod_eq_emod_of_nonneg ado];omega
  obtain⟨aiq,air⟩:=adp;obtain⟨q2,RH⟩:=ae (fz.tdiv 2:Int);obtain⟨m2,kg⟩:=ae (q2.tmod 2:Int);have adq:0<=q2/\q2<256:=by rw[<-RH,Int.tdiv_eq_ediv_of_nonneg zf];omega
  obtain⟨adr,ais⟩:=adq;have ads:0<=m2/\m2<4:=by rw[<-kg,Int.tmod_eq_emod_of_nonneg adr];omega
  obtain⟨ait,aiu⟩:=ads;obtain⟨ko,Rm⟩:=ae (decide (PH=1):Bool);have adt:(PH==1)=ko:=Rm;have Rn:Hid (has fn 128=ko):=af (by rw[<-Rm,<-Rl,<-Rk,<-hfz];exact(nJ fn 128 (by decide)).symm);obtain⟨vR,YQ⟩:=ae (decide (m64=1):Bool);have afQ:(m64==1)=vR:=YQ;have YR:Hid (has fn 64=vR):=af (by rw[<-YQ,<-YG,<-wo,<-hfz];exact(nJ fn 64 (by decide)).symm);obtain⟨b32,YS⟩:=ae (decide (m32=1):Bool);have afR:(m32==1)=b32:=YS;have adu:Hid (has fn 32=b32):=af (by rw[<-YS,<-YL,<-YK,<-hfz];exact(nJ fn 32 (by decide)).symm);obtain⟨b4,hb4⟩:=ae (decide (m4=1):Bool);have aiv:(m4==1)=b4:=hb4;have hh4:Hid (has fn 4=b4):=af (by rw[<-hb4,<-I9,<-U9,<-hfz];exact(nJ fn 4 (by decide)).symm);obtain⟨b2,hb2⟩:=ae (decide (m2=1):Bool);have aiw:(m2==1)=b2:=hb2;have hh2:Hid (has fn 2=b2):=af (by rw[<-hb2,<-kg,<-RH,<-hfz];exact(nJ fn 2 (by decide)).symm);have hh8:Hid (m8=((fn / 8%4:Nat):Int)):=af (by rw[<-hm8,Int.tmod_eq_emod_of_nonneg YP,<-hq8,Int.tdiv_eq_ediv_of_nonneg zf];omega);replace hfz:=af hfz;replace hz1:=af hz1;replace hz2:=af hz2;obtain⟨M,hM⟩:=ae (xH fn);have M3:Hid (M=1+aY b4 2+aY ko 1+aY vR 1):=af (by rw[<-hM];unfold xH;rw[hh4,Rn,YR]);obtain⟨y1,adv⟩:=ae (((aY b4 2:Nat):Int):Int);obtain⟨y2,adw⟩:=ae (((aY ko 1:Nat):Int):Int);obtain⟨y3,adx⟩:=ae (((aY vR 1:Nat):Int):Int);have D3:0<=y1:=by omega
  have y11:y1<=2:=by have:=iQ b4 2;omega
  have y20:0<=y2:=by omega
  have y21:y2<=1:=by have:=iQ ko 1;omega
  have y30:0<=y3:=by omega
  have y31:y3<=1:=by have:=iQ vR 1;omega
  have Us:1+y1+y2+y3=(M:Int):=by have:=M3.out;omega
  have hM5:M<=5:=by omega
  have C1:=af (fun W=>fV b4 2 W);have C2:=af (fun W=>fV ko 1 W);have C3:=af (fun W=>fV vR 1 W);rw[adv]at C1;rw[adw]at C2;rw[adx]at C3;rw[hM]at UA;have M4:=fun W=>ck Tryz.fP Tryz.xh (some ⟨bb,off,none⟩) n c (10:Int) 10 rfl (by omega) W;have M5:Hid (∀W,Below w.heap.size w W->ax W (eJ (some ⟨bb,off,none⟩) c 10) (n-10) (c-10) (bs (l.drop 10))):=af fun W hb=>by have h9:=(HR.ag hb).from (i:=10) (by omega);rw[dV]at h9;exact h9
  clear hr hc0 hl hq Vm hfn gW hk2 adb ade BC;go_enter func101,ntmps101;go_upto_region 4 with fail
  try simp only[PT]
  obtain⟨WD,di⟩:=ae ((w.alloc (.cells bF 52)).drew);have BD:Below w.heap.size w WD:=by rw[<-di];exact b0.drew
  have ZD:ar WD w.heap.size bF 52:=by rw[<-di];exact ar.new _ _ _
  have Ch:WD.heap.size=w.heap.size+1:=by rw[<-di];simp
  refine aH [(1000,fun w'=>w'.cell? ⟨bb,off+7,none⟩=some (.int .u8 fz)/\w'.cell? ⟨bb,off+8,none⟩=some (.int .u8 z1)/\w'.cell? ⟨bb,off+9,none⟩=some (.int .u8 z2))] (by kernel_rfl) ⟨BF _ b0.drew,trivial⟩ fun KQ aL=>?_;try simp only[PT]
  change atR _ _ _ _ _ _ (w.alloc (.cells bF 52)).drew;rw[di];clear di;refine tQ [0,1,2,3,4,5,6,7,8,9,10,11,12,13,14,15,16,17] ?_;refine aG 18 rfl (by kernel_rfl) (by kernel_rfl) rfl rfl 0 rfl (by kernel_rfl) (.int .u8 z1) (fun w' hf=>by(have k0:=hf.2.1;go_simp<;>with_reducible rfl)) ?_;simp only[PT];refine tQ [19,20,21,22] ?_;refine aG 23 rfl (by kernel_rfl) (by kernel_rfl) rfl rfl 0 rfl (by kernel_rfl) (.int .u8 z2) (fun w' hf=>by(have k0:=hf.2.2;go_simp<;>with_reducible rfl)) ?_;simp only[PT];refine tQ [24,25] ?_;refine fM 26 rfl (by kernel_rfl) (.agg (({aN 0 with hasUser:=ko,hasPass:=vR,hasWill:=b4,clean:=b2,keep:=kz}:Pk).cells bo).toArray) (by kernel_rfl) (fun w' _=>by kernel_rfl) ?_;try simp only[PT]
  refine sQ 27 fun K hK=>?_;simp only[GO];go_simp;refine hK _ _ ⟨⟨fun _=>BF.out _ (BD.alloc BD.size _),trivial⟩,?_⟩;clear hK K;try simp only[PT]
  refine sQ 28 fun K hK=>?_;simp only[GO];refine wW 52 24 rfl (w.heap.size+1) bF (({aN 0 with hasUser:=ko,hasPass:=vR,hasWill:=b4,clean:=b2,keep:=kz}:Pk).cells bo).toArray rfl rfl (by rw[<-Ch];exact ar.new _ _ _) rfl rfl (Pk.one _ _) fun w3 hw3 hr3=>?_;have L3:rk w (({aN 0 with hasUser:=ko,hasPass:=vR,hasWill:=b4,clean:=b2,keep:=kz}:Pk).cells bo).toArray w3:=
   ⟨(BD.alloc BD.size _).trans (hr3.ag (by simp;omega) (by simp)),(ZD.alloc _).aw hr3 (by simp),hw3⟩
  refine hK _ _ ⟨⟨fun _=>BF.out _ L3.low,trivial⟩,?_⟩;clear hK K;try simp only[PT]
  refine dQ (aL.out _ _ ?_);clear aL KQ;have L3k:=af L3.pk;have Gv:=af L3;clear L3 hw3 hr3 BD ZD Ch;go_upto_region 6 with(first
   | (refine aq rfl 4 52 _ _ rfl (fun w=>by kernel_rfl) (w.heap.size+1) 14 _ (.bool b32) rfl rfl L3k.out (by exact(by decide:14<24)) rfl rfl ?_;intro w4 hw4 hr4)
   | (refine aq rfl 3 52 _ _ rfl (fun w=>by kernel_rfl) (w.heap.size+1) 13 _ (.int .i64 m8) rfl rfl hw4 (by exact(by decide:13<24)) rfl rfl ?_;intro w5 eo fh))
  try simp only[PT]
  have L5:rk w (({aN 0 with hasUser:=ko,hasPass:=vR,hasWill:=b4,clean:=b2,keep:=kz,will:=⟨[],[],m8,b32⟩}:Pk).cells bo).toArray w5:=(Gv.put hw4 hr4).put eo fh;have L5h:=af L5;clear Gv L3k hw4 hr4 eo fh L5;obtain⟨P0,Aq⟩:∃P:Pk,({aN 0 with hasUser:=ko,hasPass:=vR,hasWill:=b4,clean:=b2,keep:=kz,will:=⟨[],[],m8,b32⟩}:Pk)=P:=⟨_,rfl⟩;have kq:Hid (∀W,ar W (w.heap.size+1) (P0.cells bo).toArray 52->W.cell? ⟨w.heap.size+1,10,none⟩=some (.bool b4)/\W.cell? ⟨w.heap.size+1,15,none⟩=some (.bool ko)/\W.cell? ⟨w.heap.size+1,16,none⟩=some (.bool vR)):=af fun W hb=>by rw[<-Aq]at hb;exact⟨hb.cell 10,hb.cell 15,hb.cell 16⟩
  rw[Aq]at L5h;have SD:=L5h.step ai.drew;refine aH [(1000,fun w'=>ar w' (w.heap.size+1) (P0.cells bo).toArray 52)] (by kernel_rfl) ⟨SD.pk,trivial⟩ fun KQ aL=>?_;try simp only[PT]
  obtain⟨WD,di⟩:=ae w5.drew;rw[di]at SD ⊢;refine tQ [0] ?_;refine fX 1 rfl (by kernel_rfl) (by kernel_rfl) rfl Tryz.fP _ M4 ?_;try simp only[PT]
  refine tQ [2] ?_;refine aG 3 rfl (by kernel_rfl) (by kernel_rfl) rfl rfl 0 rfl (by kernel_rfl) (.bool b4) (fun w' hf=>by(have k0:=(kq _ hf).1;go_simp<;>with_reducible rfl)) ?_;simp only[PT];refine tQ [6] ?_;refine aG 7 rfl (by kernel_rfl) (by kernel_rfl) rfl rfl 0 rfl (by kernel_rfl) (.bool ko) (fun w' hf=>by(have k0:=(kq _ hf).2.1;go_simp<;>with_reducible rfl)) ?_;simp only[PT];refine tQ [10] ?_;refine aG 11 rfl (by kernel_rfl) (by kernel_rfl) rfl rfl 0 rfl (by kernel_rfl) (.bool vR) (fun w' hf=>by(have k0:=(kq _ hf).2.2;go_simp<;>with_reducible rfl)) ?_;simp only[PT];refine sQ 4 fun K hK=>?_;simp only[GO];go_simp;refine(C1 WD).mono ?_;rintro e w1 ⟨rfl,rfl⟩;refine hK _ _ ⟨⟨fun _=>SD.pk,trivial⟩,?_⟩;clear hK K;try simp only[PT]
  refine tQ [5] ?_;refine sQ 8 fun K hK=>?_;simp only[GO];go_simp;refine(C2 WD).mono ?_;rintro e w1 ⟨rfl,rfl⟩;refine hK _ _ ⟨⟨fun _=>SD.pk,trivial⟩,?_⟩;clear hK K;try simp only[PT]
  refine tQ [9] ?_;refine sQ 12 fun K hK=>?_;simp only[GO];go_simp;refine(C3 WD).mono ?_;rintro e w1 ⟨rfl,rfl⟩;refine hK _ _ ⟨⟨fun _=>SD.pk,trivial⟩,?_⟩;clear hK K;try simp only[PT]
  refine tQ [13] ?_;refine sQ 14 fun K hK=>?_;simp only[GO];go_simp;refine(IC _ _ _ _ M WD (M5 _ SD.low) (by omega) (by omega)).mono ?_;rintro e w6 ⟨fj,⟨hno,rfl⟩ | ⟨xs,r,v,cq,rfl,J6⟩⟩
  ·have S6:=af (SD.step fj);have LO:Hid (pD l=none):=af (by rw[UA,hno];rfl);refine hK _ _ ⟨⟨fun _=>S6.pk,trivial⟩,?_⟩;clear hK K;try simp only[PT]
   refine tQ [15,16,17,18,19] ?_;refine dQ (aL.out _ _ ?_);clear aL KQ;clear SD di C1 C2 C3;have KZ:=S6.out;obtain⟨zc,dA⟩:=ae ((P0.cells bo).toArray);rw[dA]at KZ;have dR:Hid (zc.size=24):=af (by rw[<-dA];rfl);have jZ:Hid ((prog.info? 52).map (·.size)=some zc.size):=af (by rw[dR];kernel_rfl);have cH:Hid (∀v∈zc.toList,v.oneCell'=true):=af (by rw[<-dA];exact Pk.one _ _);clear S6 dA L5h kq;go_wp2_with (first
    | (refine wL 52 rfl rfl KZ.pk underlying52 ?_ rfl rfl jZ.out)
    | (refine wS 52 24 rfl w.heap.size _ _ rfl rfl KZ.res dR.out rfl cH.out ?_;intro w9 cC dN))
   refine bodyPost_ret (aS results101 rfl (aj cC 52 underlying52 rfl jZ.out) rfl) rfl ?_;exact⟨KZ.low.trans (dN.ag KZ.low.size (by simp)),.inl ⟨LO.out,_,rfl,dR.out,cH.out⟩⟩
  have S6:=af (SD.step fj);refine hK _ _ ⟨⟨fun _=>S6.pk,trivial⟩,?_⟩;clear hK K;try simp only[PT]
  refine tQ [15,16,17,18,19] ?_;refine dQ (aL.out _ _ ?_);clear aL KQ;have hWs:w.heap.size+2<=WD.heap.size:=SD.size;clear SD di C1 C2 C3;have hxl:=iL bC M _ r xs cq;obtain⟨a6,c6,rfl⟩:=aA J6;have PJ:=mJ.gK (aT J6 hWs);have Ro:Hid (pD l=some (DF fn kz xs)):=af (by rw[UA,cq];rfl);have PJ:=af PJ;have YT:Hid (∀(P:Pk) W,ar W (w.heap.size+1) (P.cells bo).toArray 52->W.cell? ⟨w.heap.size+1,10,none⟩=some (.bool P.hasWill)/\W.cell? ⟨w.heap.size+1,15,none⟩=some (.bool P.hasUser)/\W.cell? ⟨w.heap.size+1,16,none⟩=some (.bool P.hasPass)):=af fun P W hb=>⟨hb.cell 10,hb.cell 15,hb.cell 16⟩;clear J6 fj L5h kq cq;obtain⟨x0,X1,hX⟩:∃x0 X1,xs=x0::X1:=by
   cases xs with
   | nil=>have:=M3.out;simp at hxl;omega
   | cons x r=>exact⟨x,r,rfl⟩
  subst hX;rw[<-hxl]at PJ ⊢;have hX1:Hid (X1.length=aY b4 2+aY ko 1+aY vR 1):=af (by have:=M3.out;simp at hxl;omega);clear hxl;have cR:(x0::X1).length=X1.length+1:=rfl;rw[cR]at PJ ⊢;obtain⟨b6,o6,ha6,hc6⟩:=PJ.get (i:=0) (by omega);subst ha6;replace hc6:w6.cell? ⟨b6,o6,none⟩=some (.string ⟨x0.toArray⟩):=hc6;have UF:=PJ.row.le;have UG:=PJ.row.max;have qV:=fun W=>ck Tryz.Jf Tryz.szS (some ⟨b6,o6,none⟩) (X1.length+1) c6 (1:Int) 1 rfl (by omega) W;rw[Nat.add_sub_cancel]at qV;have SR7:Hid (mJ (w.heap.size+2) w6 (eJ (some ⟨b6,o6,none⟩) c6 1) X1.length (c6-1) X1):=af (by
   have h9:=PJ.from (i:=1) (by omega)
   rwa [Nat.add_sub_cancel]at h9)
  go_upto_region 9 with fail
  try simp only[PT]
  have SD:=S6.step ai.drew;have PK:=SR7.ag ai.drew;have hcD:w6.drew.cell? ⟨b6,o6,none⟩=some (.string ⟨x0.toArray⟩):=hc6;obtain⟨WE,Ug⟩:=ae w6.drew;refine aH [(6,fun w'=>w'.cell? ⟨b6,o6,none⟩=some (.string ⟨x0.toArray⟩))] (by kernel_rfl) ⟨hcD,trivial⟩ fun KQ aL=>?_;try simp only[PT]
  rw[Ug]at SD PK ⊢;clear Ug;refine tQ [0,1] ?_;refine aG 2 rfl (by kernel_rfl) (by kernel_rfl) rfl rfl 0 rfl (by kernel_rfl) (.string ⟨x0.toArray⟩) (fun w' hf=>by(have k0:=hf;go_simp<;>with_reducible rfl)) ?_;simp only[PT];refine tQ [3] ?_;refine fX 4 rfl (by kernel_rfl) (by kernel_rfl) rfl Tryz.Jf _ qV ?_;try simp only[PT]
  refine tQ [5] ?_;refine sQ 6 fun K hK=>?_;simp only[GO];refine aC 9 52 _ _ rfl (fun w=>by kernel_rfl) (w.heap.size+1) 7 _ (.string ⟨x0.toArray⟩) rfl rfl SD.pk (by exact(by decide:7<24)) rfl rfl ?_;intro w7 hp7 gZ;have L7:=af (show rk w (({P0 with client:=x0}:Pk).cells bo).toArray w7 from SD.put hp7 gZ);have sS:=PK.wrote gZ (by simp);refine hK _ _ ⟨⟨(fun h=>by cases h),trivial⟩,?_⟩;clear hK K;try simp only[PT]
  refine tQ [7] ?_;refine dQ (aL.out _ _ ?_);clear aL KQ;obtain⟨P1,K6⟩:∃P:Pk,({P0 with client:=x0}:Pk)=P:=⟨_,rfl⟩;have e10:P1.hasWill=b4:=by rw[<-K6,<-Aq]
  have e11:P1.hasUser=ko:=by rw[<-K6,<-Aq]
  have e12:P1.hasPass=vR:=by rw[<-K6,<-Aq]
  rw[K6]at L7;obtain⟨a7,Rp⟩:=ae (eJ (some ⟨b6,o6,none⟩) c6 1);obtain⟨c7,tJ⟩:=ae (c6-1);rw[Rp,tJ]at sS ⊢;have sS:=af sS;clear Rp tJ qV SR7 PJ PK SD hcD hp7 gZ hc6 UF UG S6 M5 M4 BF vN hcv kc7;have Aq:=af Aq;have K6:=af K6;obtain⟨X2,Vw⟩:=ae (if b4 then X1.tail.tail else X1);obtain⟨P2,Np⟩:∃P:Pk,({P1 with will:=if b4 then⟨X1.headD [],X1.tail.headD [],m8,b32⟩else P1.will}:Pk)=P:=⟨_,rfl⟩;have e21:P2.hasUser=ko:=by rw[<-Np];exact e11
  have Vx:P2.hasPass=vR:=by rw[<-Np];exact e12
  have Vw:=af Vw;have Np:=af Np;have gI:=(YT P1 _ L7.pk).1;rw[e10]at gI;have e21:=af e21;have Vx:=af Vx;have UH:Hid (P1.will.qos=m8/\P1.will.retain=b32):=af (by rw[<-K6.out,<-Aq.out];exact⟨rfl,rfl⟩);clear e10 e11 e12;go_upto_if 88 with fail;try simp only[PT]
  go_cut [6]from 88 (fun s6 wx=>Hid (Vv w P2 X2 s6 wx))
  case first=>
   cases b4 with
   | false=>
    have S9:Hid (Vv w P2 X2 (.slice a7 X1.length c7) w7):=af (by rw[<-Vw.out,<-Np.out];exact⟨L7.out,_,_,rfl,sS.out⟩)
    go_wp2_with fail
    go_meet
    case rel=>exact S9
   | true=>
    obtain⟨x1,x2,Y,e⟩:∃x1 x2 Y,X1=x1::x2::Y:=by
     have h:=hX1.out;rw[show aY true 2=2 from rfl]at h
     match X1,h with
     | a::b::r,_=>exact⟨a,b,r,rfl⟩
     | [_],h=>simp at h;omega
     | [],h=>simp at h;omega
    subst e;have cR:(x1::x2::Y).length=Y.length+2:=rfl;rw[cR]at sS ⊢;obtain⟨b7,o7,Rp,tJ⟩:=sS.get (i:=0) (by omega);subst Rp;obtain⟨b8,o8,ha8,Ns⟩:=sS.get (i:=1) (by omega);cases ha8;replace tJ:w7.drew.cell? ⟨b7,o7,none⟩=some (.string ⟨x1.toArray⟩):=tJ;replace Ns:w7.drew.cell? ⟨b7,o7+1,none⟩=some (.string ⟨x2.toArray⟩):=Ns;have UF:=sS.row.le;have UG:=sS.row.max;have qV:=fun W=>ck Tryz.Jf Tryz.szS (some ⟨b7,o7,none⟩) (Y.length+2) c7 (2:Int) 2 rfl (by omega) W;rw[Nat.add_sub_cancel]at qV;have EI:=sS.from (i:=2) (by omega);rw[Nat.add_sub_cancel]at EI;replace EI:mJ (w.heap.size+2) w7 (eJ (some ⟨b7,o7,none⟩) c7 2) Y.length (c7-2) Y:=EI;go_upto_region 11 with fail
    try simp only[PT]
    have SD:=L7.step ai.drew;have PK:=EI.ag ai.drew;have SRF:=sS.ag ai.drew;refine aH [(10,fun w'=>w'.cell? ⟨b7,o7,none⟩=some (.string ⟨x1.toArray⟩)),(13,fun w'=>w'.cell? ⟨b7,o7+1,none⟩=some (.string ⟨x2.toArray⟩))] (by kernel_rfl) ⟨tJ,Ns,trivial⟩ fun KQ aL=>?_;try simp only[PT]
    obtain⟨WF,Ut⟩:=ae w7.drew;rw[Ut]at SD PK SRF ⊢;clear Ut EI;refine tQ [0,1] ?_;refine aG 2 rfl (by kernel_rfl) (by kernel_rfl) rfl rfl 0 rfl (by kernel_rfl) (.string ⟨x1.toArray⟩) (fun w' hf=>by(have k0:=hf;go_simp<;>with_reducible rfl)) ?_;simp only[PT];refine tQ [3,4] ?_;refine aG 5 rfl (by kernel_rfl) (by kernel_rfl) rfl rfl 1 rfl (by kernel_rfl) (.string ⟨x2.toArray⟩) (fun w' hf=>by(have k0:=hf;go_simp<;>with_reducible rfl)) ?_;simp only[PT];refine tQ [6] ?_;refine fX 7 rfl (by kernel_rfl) (by kernel_rfl) rfl Tryz.Jf _ qV ?_;try simp only[PT]
    refine tQ [8,9] ?_;refine sQ 10 fun K hK=>?_;simp only[GO];refine aC 9 52 _ _ rfl (fun w=>by kernel_rfl) (w.heap.size+1) 11 _ (.string ⟨x1.toArray⟩) rfl rfl SD.pk (by exact(by decide:11<24)) rfl rfl ?_;intro w8 hp8 rT;have EI:=PK.wrote rT (by simp);have L8:=SD.put hp8 rT;have QJ:w8.cell? ⟨b7,o7+1,none⟩=some (.string ⟨x2.toArray⟩):=by obtain⟨b9,o9,e9,h9⟩:=(SRF.wrote rT (by simp)).get (i:=1) (by omega);cases e9;exact h9
    refine hK _ _ ⟨⟨(fun h=>by cases h),fun _=>QJ,trivial⟩,?_⟩;clear hK K;try simp only[PT]
    refine tQ [11,12] ?_;refine sQ 13 fun K hK=>?_;simp only[GO];refine aC 9 52 _ _ rfl (fun w=>by kernel_rfl) (w.heap.size+1) 12 _ (.string ⟨x2.toArray⟩) rfl rfl hp8 (by exact(by decide:12<24)) rfl rfl ?_;intro w9 Gr cC;have ady:=EI.wrote cC (by simp);have L9:=L8.put Gr cC;refine hK _ _ ⟨⟨(fun h=>by cases h),(fun h=>by cases h),trivial⟩,?_⟩;clear hK K;try simp only[PT]
    refine tQ [14] ?_;refine dQ (aL.out _ _ ?_);clear aL KQ;have S9:Hid (Vv w P2 X2 (.slice (eJ (some ⟨b7,o7,none⟩) c7 2) Y.length (c7-2)) w9):=af (by rw[<-Vw.out,<-Np.out];refine⟨?_,_,_,rfl,ady⟩;rw[if_pos rfl,<-UH.1,<-UH.2];exact L9)
    go_wp2;go_meet
    case rel=>exact S9
  case rest=>
   have S2:=hcut;obtain⟨wa,sM⟩:=ae wc;rw[sM]at S2 ⊢;clear sM hcut gI;have L7:=af S2.out.lk;obtain⟨a7,c7,zl,sS⟩:=S2.out.row;subst zl;have sS:=af sS;have YU:Hid (X2.length=aY ko 1+aY vR 1):=af (by
    have h:=hX1.out;rw[<-Vw.out];cases b4 with
    | false=>simp[aY]at h ⊢;exact h
    | true=>simp only[aY,if_true]at h ⊢;rw[List.length_tail,List.length_tail];omega)
   obtain⟨X3,Vy⟩:=ae (if ko then X2.tail else X2);obtain⟨P3,OG⟩:∃P:Pk,({P2 with user:=if ko then X2.headD []else P2.user}:Pk)=P:=⟨_,rfl⟩;have XN:Hid (P3.hasPass=vR):=af (by rw[<-OG];exact Vx.out);have Vy:=af Vy;have OG:=af OG;have gI:=(YT P2 _ L7.pk).2.1;rw[e21.out]at gI;go_upto_if 102 with fail
   try simp only[PT]
   go_cut [6]from 102 (fun s6 wx=>Hid (Vv w P3 X3 s6 wx))
   case first=>
    cases ko with
    | false=>
     have S9:Hid (Vv w P3 X3 (.slice a7 X2.length c7) wa):=af (by rw[<-Vy.out,<-OG.out];exact⟨L7.out,_,_,rfl,sS.out⟩)
     go_wp2_with fail
     go_meet
     case rel=>exact S9
    | true=>
     obtain⟨x1,Y,e⟩:∃x1 Y,X2=x1::Y:=by
      have h:=YU.out;rw[show aY true 1=1 from rfl]at h
      match X2,h with
      | a::r,_=>exact⟨a,r,rfl⟩
      | [],h=>simp at h;omega
     subst e;have cR:(x1::Y).length=Y.length+1:=rfl;rw[cR]at sS ⊢;obtain⟨b7,o7,Rp,tJ⟩:=sS.get (i:=0) (by omega);subst Rp;replace tJ:wa.drew.cell? ⟨b7,o7,none⟩=some (.string ⟨x1.toArray⟩):=tJ;have UF:=sS.row.le;have UG:=sS.row.max;have qV:=fun W=>ck Tryz.Jf Tryz.szS (some ⟨b7,o7,none⟩) (Y.length+1) c7 (1:Int) 1 rfl (by omega) W;rw[Nat.add_sub_cancel]at qV;have EI:=sS.from (i:=1) (by omega);rw[Nat.add_sub_cancel]at EI;replace EI:mJ (w.heap.size+2) wa (eJ (some ⟨b7,o7,none⟩) c7 1) Y.length (c7-1) Y:=EI;go_upto_region 13 with fail
     try simp only[PT]
     have SD:=L7.step ai.drew;have PK:=EI.ag ai.drew;refine aH [(6,fun w'=>w'.cell? ⟨b7,o7,none⟩=some (.string ⟨x1.toArray⟩))] (by kernel_rfl) ⟨tJ,trivial⟩ fun KQ aL=>?_;try simp only[PT]
     obtain⟨WF,Ut⟩:=ae wa.drew;rw[Ut]at SD PK ⊢;clear Ut EI;refine tQ [0,1] ?_;refine aG 2 rfl (by kernel_rfl) (by kernel_rfl) rfl rfl 0 rfl (by kernel_rfl) (.string ⟨x1.toArray⟩) (fun w' hf=>by(have k0:=hf;go_simp<;>with_reducible rfl)) ?_;simp only[PT];refine tQ [3] ?_;refine fX 4 rfl (by kernel_rfl) (by kernel_rfl) rfl Tryz.Jf _ qV ?_;try simp only[PT]
     refine tQ [5] ?_;refine sQ 6 fun K hK=>?_;simp only[GO];refine aC 9 52 _ _ rfl (fun w=>by kernel_rfl) (w.heap.size+1) 17 _ (.string ⟨x1.toArray⟩) rfl rfl SD.pk (by exact(by decide:17<24)) rfl rfl ?_;intro w8 hp8 rT;have EI:=PK.wrote rT (by simp);have L8:=SD.put hp8 rT;refine hK _ _ ⟨⟨(fun h=>by cases h),trivial⟩,?_⟩;clear hK K;try simp only[PT]
     refine tQ [7] ?_;refine dQ (aL.out _ _ ?_);clear aL KQ;have S9:Hid (Vv w P3 X3 (.slice (eJ (some ⟨b7,o7,none⟩) c7 1) Y.length (c7-1)) w8):=af (by rw[<-Vy.out,<-OG.out];exact⟨L8,_,_,rfl,EI⟩)
     go_wp2;go_meet
     case rel=>exact S9
   case rest=>
    have S3:=hcut;obtain⟨wb,ov⟩:=ae wc;rw[ov]at S3 ⊢;clear ov hcut gI S2 L7 sS;have L7:=af S3.out.lk;obtain⟨a7,c7,zl,sS⟩:=S3.out.row;subst zl;have sS:=af sS;have adz:Hid (X3.length=aY vR 1):=af (by
     have h:=YU.out;rw[<-Vy.out];cases ko with
     | false=>simp[aY]at h ⊢;exact h
     | true=>simp only[aY,if_true]at h ⊢;rw[List.length_tail];omega)
    have gI:=(YT P3 _ L7.pk).2.2;rw[XN]at gI;have iK:Hid ({DF fn kz (x0::X1)with kind:=0}={P3 with pass:=if vR then X3.headD []else P3.pass}):=af (by unfold DF;rw[hh4,Rn,YR,adu,hh2,<-hh8,<-OG.out,<-Vy.out,<-Np.out,<-Vw.out,<-K6.out,<-Aq.out];cases b4<;>cases ko<;>cases vR<;>rfl)
    clear e21 Vx UH S3;cases vR with
    | false=>
     have KZ:=L7.out;clear L7 YT cH;obtain⟨zc,dA⟩:=ae ((P3.cells bo).toArray);rw[dA]at KZ;have dR:Hid (zc.size=24):=af (by rw[<-dA];rfl);have jZ:Hid ((prog.info? 52).map (·.size)=some zc.size):=af (by rw[dR];kernel_rfl);have cH:Hid (∀v∈zc.toList,v.oneCell'=true):=af (by rw[<-dA];exact Pk.one _ _);replace dA:=af dA;go_wp2_with (first
      | (refine wL 52 rfl rfl KZ.pk underlying52 ?_ rfl rfl jZ.out)
      | (refine wS 52 24 rfl w.heap.size _ _ rfl rfl KZ.res dR.out rfl cH.out ?_;intro w9 cC dN))
     refine bodyPost_ret (aS results101 rfl (aj cC 52 underlying52 rfl jZ.out) rfl) rfl ?_;refine⟨KZ.low.trans (dN.ag KZ.low.size (by simp)),.inr ⟨_,bo,Ro.out,?_,fun M _=>eN.nil _ M,fun M _=>eN.nil _ M,fun M _=>eN.nil _ M⟩⟩;rw[iK,<-dA.out];rfl
    | true=>
     obtain⟨x1,e⟩:∃x1,X3=[x1]:=by
      have h:=adz.out;rw[show aY true 1=1 from rfl]at h
      match X3,h with
      | [a],_=>exact⟨a,rfl⟩
      | [],h=>simp at h
      | _::_::_,h=>simp at h
     subst e;have cR:([x1]:List (List UInt8)).length=1:=rfl;rw[cR]at sS ⊢;obtain⟨b7,o7,Rp,tJ⟩:=sS.get (i:=0) (by omega);subst Rp;replace tJ:wb.cell? ⟨b7,o7,none⟩=some (.string ⟨x1.toArray⟩):=tJ;have L7p:=L7.pk;go_upto_region 16 with(refine aq rfl 9 52 _ _ rfl (fun w=>by kernel_rfl) (w.heap.size+1) 18 _ (.string ⟨x1.toArray⟩) rfl rfl L7p (by exact(by decide:18<24)) rfl rfl ?_;intro w8 rT wV)
     try simp only[PT]
     have KZ:rk w (({P3 with pass:=x1}:Pk).cells bo).toArray w8:=L7.put rT wV;clear L7 L7p rT wV YT cH gI tJ;obtain⟨zc,dA⟩:∃zc,(({P3 with pass:=x1}:Pk).cells bo).toArray=zc:=⟨_,rfl⟩;rw[dA]at KZ;have dR:Hid (zc.size=24):=af (by rw[<-dA];rfl);have jZ:Hid ((prog.info? 52).map (·.size)=some zc.size):=af (by rw[dR];kernel_rfl);have cH:Hid (∀v∈zc.toList,v.oneCell'=true):=af (by rw[<-dA];exact Pk.one _ _);replace dA:=af dA;go_wp2_with (first
      | (refine wL 52 rfl rfl KZ.pk underlying52 ?_ rfl rfl jZ.out)
      | (refine wS 52 24 rfl w.heap.size _ _ rfl rfl KZ.res dR.out rfl cH.out ?_;intro w9 cC dN))
     refine bodyPost_ret (aS results101 rfl (aj cC 52 underlying52 rfl jZ.out) rfl) rfl ?_;refine⟨KZ.low.trans (dN.ag KZ.low.size (by simp)),.inr ⟨_,bo,Ro.out,?_,fun M _=>eN.nil _ M,fun M _=>eN.nil _ M,fun M _=>eN.nil _ M⟩⟩;rw[iK,<-dA.out];rfl
 have hne:(hs.toList==[0,4,77,81,84,84,4])=false:=by rw[Vm];simpa[Ox]using hq
 have ada:(!hs.toList==[0,4,77,81,84,84,4])=true:=by rw[hne];rfl
 have hno:Hid (pD l=none):=af (by unfold pD;rw[if_pos (Or.inr hq)]);unfold bF at hZ;clear hr Vm hq hne;go_enter func101,ntmps101;go_wp2_with (refine wS 52 24 rfl w.heap.size _ ((aN 0).cells bo).toArray rfl rfl hZ rfl rfl cH.out ?_;intro w9 cC dN)
 refine bodyPost_ret (aS results101 rfl (aj cC 52 underlying52 rfl (by kernel_rfl)) rfl) rfl ?_;exact⟨b0.trans (dN.ag (by simp) (by simp)),.inl ⟨hno.out,_,rfl,rfl,cH.out⟩⟩
end
end Go.Proofs.YtkghejaimhoboaaGreatDoor
