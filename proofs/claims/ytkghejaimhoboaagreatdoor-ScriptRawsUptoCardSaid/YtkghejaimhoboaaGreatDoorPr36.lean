/- Parts of the proof of ScriptRaws. -/
import Derived.Test.YtkghejaimhoboaaGreatDoorPr35
import Derived.Test.YtkghejaimhoboaaGreatDoorPr34
set_option linter.unusedSimpArgs false
set_option linter.unusedVariables false
set_option maxRecDepth 100000
set_option maxHeartbeats 8000000
namespace Go.Proofs.YtkghejaimhoboaaGreatDoor
open Go.RowKit Go.Shelf Go.Proofs.Tryz
section
attribute [local go_sem] Oper.semAt_some
theorem nil_fl(W:World):(binOp .neq 146 .nilFunc .nilFunc).run prog W=.ok (.bool false) W:=by
 have h:(Op.equal 146 .nilFunc .nilFunc).run prog W=.ok true W:=by unfold Op.equal;rw[show Op.maxDepth=(Op.maxDepth-1)+1 from rfl];unfold Op.equalIn;simp[run_underlying underlying146]
 simp[binOp,h]
theorem func_fl(f:FuncId)(c:Array Value)(W:World):(binOp .neq 146 (.func (.func f) #[] c) .nilFunc).run prog W=.ok (.bool true) W:=by
 have h:(Op.equal 146 (.func (.func f) #[] c) .nilFunc).run prog W=.ok false W:=by unfold Op.equal;rw[show Op.maxDepth=(Op.maxDepth-1)+1 from rfl];unfold Op.equalIn;simp[run_underlying underlying146]
 simp[binOp,h]
theorem gnil_fl(s1 s2:Operand)(W:World):(eqGuard .neq 146 s1 s2 .nilFunc .nilFunc).run prog W=.ok () W:=by go_simp
theorem gfunc_fl(f:FuncId)(c:Array Value)(s1 s2:Operand)(W:World):(eqGuard .neq 146 s1 s2 (.func (.func f) #[] c) .nilFunc).run prog W=.ok () W:=by go_simp
theorem nil_wr(W:World):(binOp .neq 147 .nilFunc .nilFunc).run prog W=.ok (.bool false) W:=by
 have h:(Op.equal 147 .nilFunc .nilFunc).run prog W=.ok true W:=by unfold Op.equal;rw[show Op.maxDepth=(Op.maxDepth-1)+1 from rfl];unfold Op.equalIn;simp[run_underlying underlying147]
 simp[binOp,h]
theorem func_wr(f:FuncId)(c:Array Value)(W:World):(binOp .neq 147 (.func (.func f) #[] c) .nilFunc).run prog W=.ok (.bool true) W:=by
 have h:(Op.equal 147 (.func (.func f) #[] c) .nilFunc).run prog W=.ok false W:=by unfold Op.equal;rw[show Op.maxDepth=(Op.maxDepth-1)+1 from rfl];unfold Op.equalIn;simp[run_underlying underlying147]
 simp[binOp,h]
theorem gnil_wr(s1 s2:Operand)(W:World):(eqGuard .neq 147 s1 s2 .nilFunc .nilFunc).run prog W=.ok () W:=by go_simp
theorem gfunc_wr(f:FuncId)(c:Array Value)(s1 s2:Operand)(W:World):(eqGuard .neq 147 s1 s2 (.func (.func f) #[] c) .nilFunc).run prog W=.ok () W:=by go_simp
structure RbI (w:World)(pc:Array Value)(kb:Nat)(cs:Array Value)(b:Nat->Nat)(W:World):Prop where
 below:Below w.heap.size w W
 pack:Blk W w.heap.size pc 52
 kind:Blk W kb cs 150
 box:∀k,4<=k->k<=11->LiAt b k W
theorem RbI.step{w:World}{pc:Array Value}{kb:Nat}{cs:Array Value}{b:Nat->Nat}{W W':World}(h:RbI w pc kb cs b W)(hb:Below W.heap.size W W'):RbI w pc kb cs b W':=⟨h.below.trans (hb.mono h.below.size),h.pack.below hb,h.kind.below hb,fun k h4 h11=>LiB.below (h.box k h4 h11) hb⟩
theorem wp_append_str{P:Program}{w:World}{o:Oper}{a:Act}{K:Act->World->Prop}{Q:Exit->Act->World->Prop}(sl x:Operand)(t u:TypeId)
  (ho:o.op=.call {callee:=.builtin .append,args:=#[sl,x],argTypes:=#[t,u]})
  (base:Nat) (e:TypeId) (i:TypeInfo) (ht:P.underlying t=some (.slice e)) (hu:P.underlying u=some .string) (hi:P.info? e=some i) (hz:i.zero=some (.int .u8 0))
  (hsize:i.size=1) (hby:i.bytes=1)
  (v:Value) (n:Nat) (xs:List Value) (hs:a.eval sl=v) (hown:w.ownsRow base e 1 v n xs) (s:ByteArray) (hx:a.eval x=.string s)
  (h63:n+s.size<=maxLen) (hbytes:n+s.size<=140737488355328) (hbase:base<=w.heap.size)
  (h:∀v' w',w'.ownsRow base e 1 v' (n+s.size) (xs++Go.Lib.strCells s)->w.grownBy w' v.ownBlock->K (a.put o.dst v') w'):o.wp P a w K Q:=by
 obtain⟨v',w',hr,h2,h3,h4⟩:=Go.Lib.run_append_own_string (P:=P) w base t u o.type e i ht hu hi hz hsize hby v n xs hown s h63 hbytes hbase;unfold Oper.wp execOp;simp only[ho,resolve,invoke,builtin,Sem.run_bind,Sem.run_pure,Result.andThen_ok,List.map_toArray,List.map_cons,List.map_nil,hs,hx,hr];exact h v' w' h2 h3
theorem lit1(x:Int)(w:World):(w.alloc (.cells #[.int .u8 x] 5)).ownsRow w.heap.size 5 1 (.slice (some ⟨w.heap.size,0,none⟩) 1 1) 1 [.int .u8 x]:=World.ownsRow_lit w #[.int .u8 x] 1 nat_le_rfl (by decide) rfl
theorem or_first(k f:Nat)(hk:k<16)(hf:f<16):bits .or .u8 ((k:Int)*16) (f:Int)=(k:Int)*16+f:=by
 have:∀k f:Fin 16,bits .or .u8 (((k:Nat):Int)*16) ((f:Nat):Int)=((k:Nat):Int)*16+((f:Nat):Int):=by decide+kernel
 exact this ⟨k,hk⟩ ⟨f,hf⟩
theorem In.toN{w W:World}{p:Pk}{h:H3}{F:List Nat}(hin:p.In w h)(hb:Below w.heap.size w W)(hF:∀x∈F,w.heap.size<=x):PkN W p h F:=by
 have go:∀{α:Type}{f:α->List Value}{sz:Nat}{hd:Hd}{xs:List α},LsAt f sz w hd.a hd.n hd.c xs->LsN f sz W hd xs F:=fun k=>⟨k.below hb,fun hne y hy hm=>by obtain⟨g,off,e,hg, -⟩:=k.at' 0 _ (List.getElem?_eq_getElem (List.length_pos_iff.2 hne));rw[hy]at e;cases e;have:=hF _ hm;dsimp only at this;omega⟩
 exact⟨go hin.lw,go hin.lc,go hin.lf⟩
theorem pk_Raw(p:Pk)(h:H3)(hs:PkS p)(hfw:(∀x∈p.wants,x.filter.length<=2000000)/\∀x∈p.filters,x.length<=2000000)(w:World)(hin:p.In w h)(hr:rightP p):
  Calls prog 54 #[.agg (p.cells h).toArray] w fun e w'=>∃v,e=.returned (.tuple #[v,.int .i64 0])/\w'.ownsRow w.heap.size 5 1 v (rawPk p).length (bs (rawPk p))/\Below w.heap.size w w':=by
 have CK:=pk_Check p h hs hfw;unfold CheckOK at CK;obtain⟨pc,hpc⟩:=gen_of ((p.cells h).toArray);obtain⟨W0,hW0⟩:=gen_of (w.alloc (.cells pc 52));have b0:Below w.heap.size w W0:=by rw[<-hW0];exact bel_refl.alloc nat_le_rfl _
 have C1:=hid (CK W0 (hin.below b0));rw[hpc]at C1;have hb0:=hid b0;have P0:Blk W0 w.heap.size pc 52:=by rw[<-hW0];exact Blk.new _ _ _
 have ic:Hid ((prog.info? 52).map (·.size)=some pc.size):=hid (by rw[<-hpc];exact(by kernel_rfl:(prog.info? 52).map (·.size)=some 24));obtain⟨kd,hkd⟩:=gen_of p.kind;have kc:Hid (∀W,Blk W w.heap.size pc 52->W.cell? ⟨w.heap.size,0,none⟩=some (.int .i64 kd)):=hid fun W hb=>by rw[hb.cell,<-hpc,<-hkd];rfl
 have kb5:Hid (∀W,Blk W w.heap.size pc 52->W.cell? ⟨w.heap.size,5,none⟩=some (.string ⟨p.body.toArray⟩)):=hid fun W hb=>by rw[hb.cell,<-hpc];rfl
 have hkr:Hid (1<=kd/\kd<=14):=hid (by rw[<-hkd];exact rightP_kind hr);have hkd:=hid hkd;rw[hpc];have hpc:=hid hpc;have HI:=hid hin;have FW:=hid (fun b k hk hk1=>pk_fw b p h hr k hk hk1);have hr:=hid hr;clear hin hs hfw CK b0;go_enter func54,ntmps54;have tok:=hid trivial;go_wp2_with (clear tok;refine wL 52 rfl rfl P0 underlying52 ?_ rfl rfl ic.out);refine C1.mono ?_;rintro e w1 ⟨z,rfl,hz,hb1⟩;obtain rfl:z=0:=hz.2 hr.out;have P1:=hid (P0.below hb1);have HB1:=hid (hb0.trans (hb1.mono hb0.size));clear hz hb1 P0 hW0 C1;go_upto_region 4 with fail;try simp only[PT]
 go_cut [5]from 16 (fun s5 wx=>∃(kb:Nat)(g1 g2 g3 g4 g5:Value),s5=.pointer (some ⟨kb,0,none⟩)/\Hid (ShAt w pc p kb g1 g2 g3 g4 g5 true wx))
 case first=>
  have BW5:Below w.heap.size w w1.drew:=HB1.drew;have tW5:Blk w1.drew w.heap.size pc 52:=P1.out;refine regionQ [(1000,fun w'=>Blk w' w.heap.size pc 52)] (by kernel_rfl) ⟨tW5,trivial⟩ fun KQ hKQ=>?_;try simp only[PT]
  obtain⟨W5,hW5⟩:=gen_of w1.drew;rw[hW5]at BW5 tW5 ⊢;refine tQ [1] ?_;refine loadQ 2 rfl (by kernel_rfl) (by kernel_rfl) rfl rfl 0 rfl (by kernel_rfl) (.int .i64 kd) (fun w' hf=>by(have k0:=kc _ hf;go_simp<;>with_reducible rfl)) ?_;simp only[PT];refine stepM [0,4] (fun j hj=>?_);have hj:j=0\/j=4:=by simpa using hj
  rcases hj with rfl | rfl
  ·refine⟨⟨_,rfl,by kernel_rfl,fun K hK=>?_⟩⟩;go_simp;refine(pk_shapes _).mono ?_;rintro e w6 ⟨m,b,rfl,⟨hm,hc⟩,hb6⟩;have ht6:=tW5.below hb6;obtain⟨g1,g2,g3,g4,g5,hg,hone,hsome⟩:=shapeG_agg b kd;have hB6:=BW5.trans (hb6.mono BW5.size);refine hK _ _ ⟨⟨fun _=>ht6,trivial⟩,?_⟩;clear hK K;try simp only[PT]
   refine atR_more [(1000,fun w'=>Blk w' w.heap.size pc 52),(1000,fun w'=>IM .i64 w' m (shapeG b))] (by simp) ⟨fun _=>ht6,fun _=>hm,trivial⟩ ?_;refine lookQ 3 rfl (by kernel_rfl) (by kernel_rfl) rfl rfl rfl 1 rfl (by kernel_rfl) (.agg #[g1,g2,g3,g4,g5]) (fun w' hf=>(look_sh hf kd false).trans (by rw[hg];rfl)) ?_;try simp only[PT]
   have his:(shapeG b kd).isSome=true:=by unfold shapeG;rw[if_pos hkr.out];rfl
   refine sQ 4 fun K hK=>?_;simp only[GO];go_simp;refine hK _ _ ⟨⟨fun _=>ht6.alloc _,fun _=>hm.alloc _,trivial⟩,?_⟩;clear hK K;try simp only[PT]
   refine sQ 5 fun K hK=>?_;simp only[GO];refine wW 150 5 rfl w6.heap.size zSh #[g1,g2,g3,g4,g5] rfl rfl (Blk.new _ _ _) rfl rfl hone fun w7 hw7 hr7=>?_;replace hr7:Wrote [w6.heap.size] (w6.alloc (.cells zSh 150)) w7:=hr7;have hs6:=hB6.size;have hz6:(w6.alloc (.cells zSh 150)).heap.size=w6.heap.size+1:=by simp
   have b67:Below w6.heap.size w6 w7:=(bel_refl.alloc nat_le_rfl _).trans (hr7.below (by simp) (by simp));have hb7:=hB6.trans (b67.mono hB6.size);have ht7:=ht6.below b67;have hm7:=hm.below b67;refine hK _ _ ⟨⟨fun _=>ht7,fun _=>hm7,trivial⟩,?_⟩;clear hK K;try simp only[PT]
   refine dQ (hKQ.out _ _ ?_);clear hKQ KQ;have hR:=hid (show ShAt w pc p w6.heap.size g1 g2 g3 g4 g5 true w7 from⟨hb7,ht7,hw7,(fun h=>by cases h),fun h=>⟨b,by rw[hkd.out];exact hsome his,fun k h4 h11=>LiB.below (hc k h4 h11) b67⟩⟩);go_wp2;go_meet
   case rel=>exact⟨_,_,_,_,_,_,rfl,hR⟩
  refine⟨⟨_,rfl,by kernel_rfl,fun K hK=>?_⟩⟩;go_simp;refine hK _ _ ⟨⟨fun _=>tW5.alloc _,trivial⟩,?_⟩;clear hK K;try simp only[PT]
  refine sQ 0 fun K hK=>?_;simp only[GO];go_simp;refine(pk_shapes _).mono ?_;rintro e w6 ⟨m,b,rfl,⟨hm,hc⟩,hb6⟩;have ht6:=(tW5.alloc (.cells zSh 150)).below hb6;have hk6:=(Blk.new W5 zSh 150).below hb6;obtain⟨g1,g2,g3,g4,g5,hg,hone,hsome⟩:=shapeG_agg b kd;have hs5:=BW5.size;have hz5:(W5.alloc (.cells zSh 150)).heap.size=W5.heap.size+1:=by simp
  have hB6:=(BW5.alloc hs5 (.cells zSh 150)).trans (hb6.mono (by simp;omega));have hb6s:W5.heap.size+1<=w6.heap.size:=by have:=hb6.size;simpa using this
  refine hK _ _ ⟨⟨fun _=>ht6,trivial⟩,?_⟩;clear hK K;try simp only[PT]
  refine atR_more [(1000,fun w'=>Blk w' w.heap.size pc 52),(1000,fun w'=>IM .i64 w' m (shapeG b))] (by simp) ⟨fun _=>ht6,fun _=>hm,trivial⟩ ?_;refine lookQ 3 rfl (by kernel_rfl) (by kernel_rfl) rfl rfl rfl 1 rfl (by kernel_rfl) (.agg #[g1,g2,g3,g4,g5]) (fun w' hf=>(look_sh hf kd false).trans (by rw[hg];rfl)) ?_;try simp only[PT]
  have his:(shapeG b kd).isSome=true:=by unfold shapeG;rw[if_pos hkr.out];rfl
  refine sQ 5 fun K hK=>?_;simp only[GO];have hne:m≠W5.heap.size:=fun h=>by obtain⟨es,cl,h1, -⟩:=hm;have h2:w6.heap[W5.heap.size]?=_:=hk6;rw[h,h2]at h1;cases h1
  have hnb:∀(T:TypeId)(v:Value)(x:Nat),Boxed w6 x T v->x≠W5.heap.size:=fun T v x hx h=>by have h1:w6.heap[x]?=_:=hx;have h2:w6.heap[W5.heap.size]?=_:=hk6;rw[h,h2]at h1;cases h1
  refine wW 150 5 rfl W5.heap.size zSh #[g1,g2,g3,g4,g5] rfl rfl hk6 rfl rfl hone fun w7 hw7 hr7=>?_;have hb7:=hB6.trans (hr7.below (by have:=hB6.size;omega) (by simp;omega));have ht7:=ht6.keepW hr7 (by have:=tW5.lt;simp;omega);have hm7:=hm.wrote hr7 (by simpa using hne);refine hK _ _ ⟨⟨fun _=>ht7,fun _=>hm7,trivial⟩,?_⟩;clear hK K;try simp only[PT]
  refine dQ (hKQ.out _ _ ?_);clear hKQ KQ;have hR:=hid (show ShAt w pc p W5.heap.size g1 g2 g3 g4 g5 true w7 from⟨hb7,ht7,hw7,(fun h=>by cases h),fun h=>⟨b,by rw[hkd.out];exact hsome his,fun k h4 h11=>by have x:=hc k h4 h11;exact LiB.wrote x hr7 (by simpa using hnb _ _ _ x.fl) (by simpa using hnb _ _ _ x.has) (by simpa using hnb _ _ _ x.may) (by simpa using hnb _ _ _ x.wr) (by simpa using hnb _ _ _ x.rd)⟩⟩)
  go_wp2;go_meet
  case rel=>exact⟨_,_,_,_,_,_,rfl,hR⟩
 case rest=>
  obtain⟨kb,g1,g2,g3,g4,g5,rfl,hK⟩:=hcut;obtain⟨wa,hwa⟩:=gen_of wc;rw[hwa]at hK ⊢;clear hwa;obtain⟨b,hkg,hL⟩:=hK.out.some rfl;obtain⟨n,hn,hn1,hv⟩:=shapeG_some hkg;obtain⟨g1',g2',g3',g4',g5',m,hv',hfl,hwr,hbd⟩:=FW b n hn hn1;rw[hv]at hv';simp only[Value.agg.injEq,Array.mk.injEq,List.cons.injEq,and_true]at hv';obtain⟨rfl,rfl,rfl,rfl,rfl⟩:=hv';have k0:=kc _ hK.out.pack;have k2:wa.cell? ⟨kb,2,none⟩=some g3:=hK.out.kind.cell 2;have hkr0:1<=kd:=hkr.1;have hkr1:kd<=14:=hkr.2;have HL:=hid hL;have hfl:=hid hfl;have hwr:=hid hwr;have hbd:=hid hbd;clear hkg hv hL hn hn1;have HR:=hid (show RbI w pc kb #[g1,g2,g3,g4,g5] b wa from⟨hK.out.below,hK.out.pack,hK.out.kind,HL.out⟩);have hfl16:=hid (flagN_lt hr.out);obtain⟨fl,hfln⟩:=gen_of (flagN p);rw[hfln]at hfl16;have hfln:=hid hfln;obtain⟨kn,hknn⟩:=Int.eq_ofNat_of_zero_le (show 0<=kd by omega);have hOR:=hid (or_first kn fl (by omega) hfl16.out);rw[<-hknn]at hOR;replace hknn:=hid hknn;obtain⟨fz,hfz⟩:=gen_of ((fl:Int):Int);have hfz0:0<=fz:=by omega
  have hfz1:fz<16:=by have:=hfl16.out;omega
  rw[hfz]at hOR;have hfz:=hid hfz;obtain⟨nb,hnb,hgnb,hfl2⟩:∃nb:Bool,(∀W,(binOp .neq 146 g3 .nilFunc).run prog W=.ok (.bool nb) W)/\(∀s1 s2 W,(eqGuard .neq 146 s1 s2 g3 .nilFunc).run prog W=.ok () W)/\((nb=false/\fz=0)\/(nb=true/\∃f c,g3=fnV f c/\fnC f/\∀W,ShK b p.kind.toNat W->Calls prog f (#[.agg pc]++c) W fun e w'=>e=.returned (.int .i64 fz)/\Below W.heap.size W w')):=by
   rcases hfl.out with⟨rfl,hf0⟩ | ⟨ff,fc,rfl,hff,hfc⟩
   ·exact⟨false,nil_fl,gnil_fl,.inl ⟨rfl,by rw[<-hfz.out,<-hfln.out,hf0];rfl⟩⟩
   refine⟨true,fun W=>func_fl ff fc W,fun s1 s2 W=>gfunc_fl ff fc s1 s2 W,.inr ⟨rfl,ff,fc,rfl,hff,fun W hsh=>?_⟩⟩;have:=hfc W hsh;rw[hpc.out,hfln.out,hfz.out]at this;exact this
  obtain⟨nw,hnw,hgnw,hwr2⟩:∃nw:Bool,(∀W,(binOp .neq 147 g4 .nilFunc).run prog W=.ok (.bool nw) W)/\(∀s1 s2 W,(eqGuard .neq 147 s1 s2 g4 .nilFunc).run prog W=.ok () W)/\((nw=false/\m=[])\/(nw=true/\∃f c,g4=fnV f c/\fnC f/\∀W F q,ShK b p.kind.toNat W->p.In W h->Wr W F q []->(∀k:Nat,4<=k->k<=11->b k+3∉F)->PkN W p h F->Calls prog f (#[.pointer (some ⟨q,0,none⟩),.agg pc]++c) W (PutR F q [] m W))):=by
   rcases hwr.out with⟨rfl,hf0⟩ | ⟨ff,fc,rfl,hff,hfc⟩
   ·exact⟨false,nil_wr,gnil_wr,.inl ⟨rfl,hf0⟩⟩
   refine⟨true,fun W=>func_wr ff fc W,fun s1 s2 W=>gfunc_wr ff fc s1 s2 W,.inr ⟨rfl,ff,fc,rfl,hff,fun W F q h1 h2 h3 h4 h5=>?_⟩⟩;have:=hfc W F q h1 h2 h3 h4 h5;rw[hpc.out]at this;exact this
  have hfl2:=hid hfl2;have hwr2:=hid hwr2;have hnw:=hid hnw;have hgnw:=hid hgnw;clear hK hfl hwr;go_upto_if 26 with fail;try simp only[PT]
  go_cut [6]from 27 (fun s6 wx=>s6=.int .u8 (kd*16+fz)/\Hid (RbI w pc kb #[g1,g2,g3,g4,g5] b wx))
  case first=>
   rcases hfl2.out with⟨rfl,hf0⟩ | ⟨rfl,ff,fc,rfl,hff,hfc⟩
   ·subst hf0;go_wp2_with fail
    go_meet
    case rel=>exact⟨by simp,HR⟩
   unfold fnV at k2;unfold fnC at hff;have CF:=hid (hfc wa (fun h4 h11=>HR.box _ h4 h11));have ta:=HR.pack;have hOR:=hOR.out;have tok:=hid trivial;clear hfl2 hfc hnb hgnb;go_wp2_with (clear tok;refine wL 52 rfl rfl ta underlying52 ?_ rfl rfl ic.out);refine CF.mono ?_;rintro e w8 ⟨rfl,hb8⟩;have HR8:=hid (HR.step hb8);clear hb8 ta k0 k2;go_wp2_with fail;go_meet
   case rel=>exact⟨rfl,HR8⟩
  case rest=>
   obtain⟨rfl,HB⟩:=hcut;obtain⟨wb,hwb⟩:=gen_of wc;rw[hwb]at HB ⊢;clear hwb hnb hgnb hfl2 k0 k2 HR hOR;have k3:Hid (∀W,Below wb.heap.size wb W->W.cell? ⟨kb,3,none⟩=some g4):=hid (fun W hb=>(HB.out.step hb).kind.cell 3);have CNW:=hid (wire_NewWriter wb);have hnw:=hnw.out;have hgnw:=hgnw.out;go_upto_region 8 with fail
   go_wp2_with fail
   refine CNW.mono ?_;rintro e w9 ⟨rfl,hW9,hb9⟩;have k3:=k3 _ hb9;have H9:=hid hW9;have B9:=hid hb9;have hz9:=hb9.size;have hlt9:=hid (H9.lt _ (List.mem_singleton.2 rfl));obtain⟨q,hq⟩:=gen_of wb.heap.size;rw[hq]at H9 hlt9 ⊢;have hq:=hid hq;clear hW9 hb9 hz9;go_upto_if 37 with fail;try simp only[PT]
   go_cut []from 38 (fun wx=>∃F1,Hid (Wr wx F1 q m)/\Hid (Below wb.heap.size wb wx))
   case first=>
    rcases hwr2.out with⟨rfl,hm0⟩ | ⟨rfl,ff,fc,rfl,hff,hfc⟩
    ·go_wp2_with fail
     go_meet
     case rel=>exact⟨[q],by rw[hm0];exact H9,B9⟩
    unfold fnV at k3;unfold fnC at hff;have HR9:=HB.out.step B9.out;have CF:=hid (hfc w9 [q] q (fun h4 h11=>HR9.box _ h4 h11) (HI.below HR9.below) H9.out (fun k h4 h11 hm=>by
     have h1:=(HB.out.box k h4 h11).wr.lt;have h2:=hq.out;simp at hm;omega) (In.toN HI.out HR9.below (fun x hx=>by
     have h2:=hq.out;have h3:=HB.out.below.size;simp at hx;omega)))
    have ta:=HR9.pack;have tok:=hid trivial;clear hwr2 hfc hnw hgnw HR9;go_wp2_with (clear tok;refine wL 52 rfl rfl ta underlying52 ?_ rfl rfl ic.out);refine CF.mono ?_;rintro e w10 ⟨F1,rfl,hw10,hs10⟩;have B10:=hid (B9.trans (hs10.wrote.below B9.size (by have h2:=hq.out;simp;omega)));have H10:Hid (Wr w10 F1 q m):=hid (by simpa using hw10);clear hw10 hs10 ta k3;go_wp2_with fail;go_meet
    case rel=>exact⟨F1,H10,B10⟩
   case rest=>
    obtain⟨F1,H11,B11⟩:=hcut;obtain⟨wd,hwd⟩:=gen_of wc;rw[hwd]at H11 B11 ⊢;clear hwd k3 hnw hgnw hwr2 H9 B9 hlt9 CNW;have HR11:=hid (HB.out.step B11.out);go_upto_region 11 with fail
    obtain⟨i0,hi,hz0,hz1,hz2⟩:=info_parts Tryz.infoB;have hml:Hid (m.length+p.body.length<=5000):=hid (by have h9:=bodyP_len hr.out;rw[hbd.out,List.length_append]at h9;exact h9);have bD:Below wd.heap.size wd wd.drew:=bel_refl.drew;have PD:Blk wd.drew w.heap.size pc 52:=HR11.pack.below bD;have BD:Below w.heap.size w wd.drew:=HR11.below.drew;have HD:Wr wd.drew F1 q m:=H11.out.below bD;refine regionQ [(1000,fun w'=>Blk w' w.heap.size pc 52)] (by kernel_rfl) ⟨PD,trivial⟩ fun KQ hKQ=>?_;obtain⟨WD,hWD⟩:=gen_of wd.drew;rw[hWD]at PD BD HD ⊢;clear hWD bD H11 HR11 B11;try simp only[PT]
    refine tQ [0,2] ?_;refine loadQ 3 rfl (by kernel_rfl) (by kernel_rfl) rfl rfl 0 rfl (by kernel_rfl) (.string ⟨p.body.toArray⟩) (fun w' hf=>by(have k0:=kb5 _ hf;go_simp<;>with_reducible rfl)) ?_;simp only[PT];refine sQ 1 fun K hK=>?_;simp only[GO];go_simp;refine(wire_Bytes HD (by have:=hml.out;omega)).mono ?_;rintro e w11 ⟨v,rfl,ho,hb⟩;have P11:=PD.below hb;have B11:=BD.trans (hb.mono BD.size);have hs11:=hb.size;refine hK _ _ ⟨⟨fun _=>P11,trivial⟩,?_⟩;clear hK K;try simp only[PT]
    refine sQ 4 fun K hK=>?_;simp only[GO];have hsz:(⟨p.body.toArray⟩:ByteArray).size=p.body.length:=by simp[ByteArray.size]
    refine wp_append_str _ _ 22 9 rfl WD.heap.size 5 i0 underlying22 underlying9 hi hz0 hz1 hz2 v m.length (bs m) rfl ho ⟨p.body.toArray⟩ rfl (by rw[hsz];have:=hml.out;unfold maxLen;omega) (by rw[hsz];have:=hml.out;omega) hs11 fun v12 w12 how hg=>?_;rw[hsz,strCells_bs,<-bs_app,<-hbd.out,<-List.length_append,<-hbd.out]at how;have b12:Below WD.heap.size w11 w12:=(Below.refl w11.heap.size w11).mono hs11 |>.grown hg hs11 (fun y hy=>(ho.lt y hy).1)
    have P12:Blk w12 w.heap.size pc 52:=PD.below (hb.trans b12);have B12:=hid (BD.trans ((hb.trans b12).mono BD.size));refine hK _ _ ⟨⟨fun _=>P12,trivial⟩,?_⟩;clear hK K;try simp only[PT]
    refine tQ [5] ?_;refine dQ (hKQ.out _ _ ?_);clear hKQ KQ;obtain⟨a12,c12,rfl⟩:=own_slice how;have HOW:=hid (ownsRow_mono how (base':=w.heap.size) BD.size);obtain⟨bl,hbl⟩:=gen_of ((bodyP p).length);have hbl5:bl<=5000:=by rw[<-hbl];exact bodyP_len hr.out
    rw[hbl]at HOW ⊢;have hbl:=hid hbl;have CL:=hid (len_raw (bl:Int) w12 (by unfold mayL;simp;omega));clear how P12 P11 B11 hb ho hg b12 PD BD HD hsz;go_wp2_with fail;refine CL.mono ?_;rintro e w13 ⟨v13,rfl,ho13,hb13⟩;have hs4:=sizeL_le4 (bl:Int);have hraw:Hid (bs (rawPk p)=[.int .u8 (kd*16+fz)]++bs (rawL (sizeL (bl:Int)) bl)++bs (bodyP p)):=hid (by unfold rawPk lenB;rw[hbl.out,show(UInt8.ofNat (16*p.kind.toNat+flagN p)::(rawL (sizeL (bl:Int)) bl++bodyP p))=[UInt8.ofNat (16*p.kind.toNat+flagN p)]++(rawL (sizeL (bl:Int)) bl++bodyP p)from rfl,bs_app,bs_app,<-List.append_assoc];congr 2;unfold bs;simp only[List.map_cons,List.map_nil];rw[u8_of _ (by have:=hfl16.out;have:=hfln.out;have:=hkd.out;omega)];have h1:=hfz.out;have h2:=hfln.out;have h3:=hkd.out;congr 2;omega)
    have hrl:Hid ((rawPk p).length=1+sizeL (bl:Int)+bl):=hid (by unfold rawPk lenB;rw[List.length_cons,List.length_append,rawL_len,hbl.out];omega)
    obtain⟨sl,hsl⟩:=gen_of (sizeL (bl:Int));rw[hsl]at ho13 hraw hs4 hrl;rw[show((bl:Nat):Int).toNat=bl from rfl]at ho13;obtain⟨a13,c13,rfl⟩:=own_slice ho13;obtain⟨fb,hfb⟩:=gen_of (kd*16+fz);rw[hfb]at hraw ⊢;have hlit:=lit1 fb w13;have HO13:=hid ho13;have HW13:=hid (ownsRow_below HOW.out hb13);have B13:=hid (B12.trans (hb13.mono B12.size));have hz13:=hb13.size;have hL:=hid hlit;have hsl:=hid hsl;have hfb:=hid hfb;clear ho13 hb13 CL hlit;have t1:=hid trivial;have t2:=hid trivial;go_wp2_with (first
     | (clear t1;at_builtin;refine wpList_plain rfl fun _ hK=>wp_append_rows _ _ rfl Tryz.eB8 (by decide) w13.heap.size _ 1 _ rfl hL.out w12.heap.size _ sl _ rfl (HO13.alloc _) (bs_one _) (by omega) (by omega) (by simp) fun v14 w14 how14 hg14 hn14=>hK _ _ ?_)
     | (clear t2;at_builtin;refine wpList_plain rfl fun _ hK=>wp_append_rows _ _ rfl Tryz.eB8 (by decide) w13.heap.size _ (1+sl) _ rfl how14 w.heap.size _ bl _ rfl (ownsRow_below HW13.out (((Below.refl w13.heap.size w13).alloc nat_le_rfl _).grown hg14 (by simp) (fun y hy=>(hL.lt y hy).1))) (bs_one _) (by omega) (by omega) (by have:=hg14.size;simp at this;omega) fun v15 w15 how15 hg15 hn15=>hK _ _ ?_))
    have b14:Below w13.heap.size w13 w14:=((Below.refl w13.heap.size w13).alloc nat_le_rfl _).grown hg14 (by simp) (fun y hy=>(hL.lt y hy).1);have b15:Below w13.heap.size w13 w15:=b14.grown hg15 b14.size (fun y hy=>(how14.lt y hy).1);have HF:=hid (show w15.ownsRow w.heap.size 5 1 v15 (rawPk p).length (bs (rawPk p))from by rw[hrl,hraw];exact ownsRow_mono how15 B13.size)
    have HB15:=hid (B13.trans (b15.mono B13.size));clear how14 how15 hg14 hg15 hn14 hn15 b14 b15;go_ret2;exact⟨v15,rfl,HF.out,HB15.out⟩
def FlagRd(b:Nat->Nat)(k:Nat)(g:Value):Prop:=(g=.nilFunc/\∀y:Pk,y.kind=(k:Int)->flagN y=0)\/∃f c,g=fnV f c/\fnC f/\∀W (y:Pk) (h:H3),y.kind=(k:Int)->((k:Int)=3->0<=y.qos/\y.qos<=3)->ShK b k W->Calls prog f (#[.agg (y.cells h).toArray]++c) W fun e w'=>e=.returned (.int .i64 (flagN y))/\Below W.heap.size W w'
theorem pk_fl(b:Nat->Nat)(k:Nat)(hk1:1<=k/\k<=14):∃g1 g2 g3 g4 g5,shpV b k=.agg #[g1,g2,g3,g4,g5]/\FlagRd b k g3:=by
 have:k=1\/k=2\/k=3\/k=4\/k=5\/k=6\/k=7\/k=8\/k=9\/k=10\/k=11\/k=12\/k=13\/k=14:=by omega
 rcases this with rfl | rfl | rfl | rfl | rfl | rfl | rfl | rfl | rfl | rfl | rfl | rfl | rfl | rfl
 ·exact⟨_,_,_,_,_,rfl,.inl ⟨rfl,fun y hy=>flag0 (by omega) (by omega)⟩⟩
 ·exact⟨_,_,_,_,_,rfl,.inl ⟨rfl,fun y hy=>flag0 (by omega) (by omega)⟩⟩
 ·exact⟨_,_,_,_,_,rfl,.inr ⟨206,#[],rfl,enters_of func206 (by kernel_rfl) rfl,fun W y h hk hq _=>pk_pubFlags y h W hk (hq rfl)⟩⟩
 ·exact⟨_,_,_,_,_,rfl,.inr ⟨185,#[.pointer (some ⟨b 4,0,none⟩)],rfl,enters_of func185 (by kernel_rfl) rfl,fun W y h hk _ hs=>(pk_flList 0 (b 4) _ W (hs (by decide) (by decide)).fl).mono fun e w' ⟨he,hb⟩=>⟨by rw[he,flag0 (by omega) (by omega)];rfl,hb⟩⟩⟩
 ·exact⟨_,_,_,_,_,rfl,.inr ⟨185,#[.pointer (some ⟨b 5,0,none⟩)],rfl,enters_of func185 (by kernel_rfl) rfl,fun W y h hk _ hs=>(pk_flList 0 (b 5) _ W (hs (by decide) (by decide)).fl).mono fun e w' ⟨he,hb⟩=>⟨by rw[he,flag0 (by omega) (by omega)];rfl,hb⟩⟩⟩
 ·exact⟨_,_,_,_,_,rfl,.inr ⟨185,#[.pointer (some ⟨b 6,0,none⟩)],rfl,enters_of func185 (by kernel_rfl) rfl,fun W y h hk _ hs=>(pk_flList 2 (b 6) _ W (hs (by decide) (by decide)).fl).mono fun e w' ⟨he,hb⟩=>⟨by rw[he,flag2 (by omega)];rfl,hb⟩⟩⟩
 ·exact⟨_,_,_,_,_,rfl,.inr ⟨185,#[.pointer (some ⟨b 7,0,none⟩)],rfl,enters_of func185 (by kernel_rfl) rfl,fun W y h hk _ hs=>(pk_flList 0 (b 7) _ W (hs (by decide) (by decide)).fl).mono fun e w' ⟨he,hb⟩=>⟨by rw[he,flag0 (by omega) (by omega)];rfl,hb⟩⟩⟩
 ·exact⟨_,_,_,_,_,rfl,.inr ⟨185,#[.pointer (some ⟨b 8,0,none⟩)],rfl,enters_of func185 (by kernel_rfl) rfl,fun W y h hk _ hs=>(pk_flList 2 (b 8) _ W (hs (by decide) (by decide)).fl).mono fun e w' ⟨he,hb⟩=>⟨by rw[he,flag2 (by omega)];rfl,hb⟩⟩⟩
 ·exact⟨_,_,_,_,_,rfl,.inr ⟨185,#[.pointer (some ⟨b 9,0,none⟩)],rfl,enters_of func185 (by kernel_rfl) rfl,fun W y h hk _ hs=>(pk_flList 0 (b 9) _ W (hs (by decide) (by decide)).fl).mono fun e w' ⟨he,hb⟩=>⟨by rw[he,flag0 (by omega) (by omega)];rfl,hb⟩⟩⟩
 ·exact⟨_,_,_,_,_,rfl,.inr ⟨185,#[.pointer (some ⟨b 10,0,none⟩)],rfl,enters_of func185 (by kernel_rfl) rfl,fun W y h hk _ hs=>(pk_flList 2 (b 10) _ W (hs (by decide) (by decide)).fl).mono fun e w' ⟨he,hb⟩=>⟨by rw[he,flag2 (by omega)];rfl,hb⟩⟩⟩
 ·exact⟨_,_,_,_,_,rfl,.inr ⟨185,#[.pointer (some ⟨b 11,0,none⟩)],rfl,enters_of func185 (by kernel_rfl) rfl,fun W y h hk _ hs=>(pk_flList 0 (b 11) _ W (hs (by decide) (by decide)).fl).mono fun e w' ⟨he,hb⟩=>⟨by rw[he,flag0 (by omega) (by omega)];rfl,hb⟩⟩⟩
 ·exact⟨_,_,_,_,_,rfl,.inl ⟨rfl,fun y hy=>flag0 (by omega) (by omega)⟩⟩
 ·exact⟨_,_,_,_,_,rfl,.inl ⟨rfl,fun y hy=>flag0 (by omega) (by omega)⟩⟩
 exact⟨_,_,_,_,_,rfl,.inl ⟨rfl,fun y hy=>flag0 (by omega) (by omega)⟩⟩
theorem stopP_is(W:World):(Instr.typeAssert (Value.iface 157 (Value.agg #[])) 20 157 true).run prog W=.ok (.tuple #[.agg #[],.bool true]) W:=by kernel_rfl
theorem pk_quiet(a b:Value)(w:World):
  CallsD prog 94 #[a,b] .returning w fun e u' w'=>e=.returned (.tuple #[])/\u'=.returning/\w=w':=by
 refine callsD_of_wpS func94 rfl fun c₀ cs hu=>?_;simp only[ntmps94,List.size_toArray,List.length_cons,List.length_nil,Nat.reduceAdd,Nat.reduceSub,Array.replicate_succ,Array.replicate_zero,List.push_toArray,List.append_toArray,List.nil_append,List.cons_append];apply wpS_seq;apply wpS_region;simp[wpOpsS,go_sem,recoverD,hu,ntmps94,Exit.thenS];refine wpS_of_wp ?_;go_wp2;refine⟨rfl,.returning,by cases c₀;simp_all,.tuple #[],results_none rfl _ _ _,rfl,rfl,rfl⟩
theorem pk_catch(pb eb:Nat)(cs:Array Value)(z:Int)(w:World)(hs:cs.size=24)(h:Blk w pb cs 52)(he:Boxed w eb 31 (.int .i64 z))(hne:pb≠eb):
  CallsD prog 94 #[.pointer (some ⟨pb,0,none⟩),.pointer (some ⟨eb,0,none⟩)] (.panicking givenP) w fun e u' w'=>e=.returned (.tuple #[])/\u'=.panicking [{v:=stopP,recovered:=true}]/\Blk w' pb zPc 52/\Boxed w' eb 31 (.int .i64 260)/\Wrote [pb,eb] w w':=by
 refine callsD_of_wpS func94 rfl fun c₀ cs' hu=>?_;simp only[ntmps94,List.size_toArray,List.length_cons,List.length_nil,Nat.reduceAdd,Nat.reduceSub,Array.replicate_succ,Array.replicate_zero,List.push_toArray,List.append_toArray,List.nil_append,List.cons_append];apply wpS_seq;apply wpS_region;simp[wpOpsS,go_sem,recoverD,hu,givenP,ntmps94,Exit.thenS];refine wpS_of_wp ?_;have hb:=Blk.alloc h (.cells #[] 157);have hx:=he.alloc (.cells #[] 157);have hone:Hid (∀v∈zPc.toList,v.oneCell'=true):=hid (Pk.one (zPk 0) h3Z);unfold stopP;have hta:=stopP_is;have hl:=h.lt;have hl2:=he.lt;replace h:=hid h;replace he:=hid he;replace hs:=hid hs;replace hu:=hid hu;go_wp2_with (refine wS 52 24 rfl pb cs zPc rfl rfl hb rfl hs.out hone.out ?_;intro w2 hw2 hr2;have k2:=(hr2.boxed (by simpa using fun e=>hne e.symm) hx);have k2c:=k2.cell;have k2f:=k2.frozen);have hset:Wrote [eb] w2 (w2.setCell ⟨eb,0,none⟩ (.int .i64 260)):=Wrote.setCell w2 _ (by simp) _;have H:Blk (w2.setCell ⟨eb,0,none⟩ (.int .i64 260)) pb zPc 52/\Boxed (w2.setCell ⟨eb,0,none⟩ (.int .i64 260)) eb 31 (.int .i64 260)/\Wrote [pb,eb] w (w2.setCell ⟨eb,0,none⟩ (.int .i64 260)):=
  ⟨hw2.keepW hset (by simpa using hne),k2.set _,((Wrote.alloc [pb,eb] w _).trans (hr2.sub (by simp))).trans (hset.sub (by simp))⟩
 exact⟨rfl,_,rfl,.tuple #[],results_none rfl _ _ _,rfl,rfl,H⟩
end
section
theorem bk_PbA_gaveup1{P:Prop}(h:P:=by refine leaves_cons (f:=94) (args:=#[.pointer (some ⟨w.heap.size,0,none⟩),.pointer (some ⟨w.heap.size+1,0,none⟩)]) (by simp) (by simp[go_sem]) ?_;refine(pk_catch _ _ _ _ _ (by first | exact hsz24.out | rfl) gP gE (by omega)).mono ?_;rintro e u' w9 ⟨rfl,rfl,hp9,he9,hw9⟩;simp only[Leaves,settle,List.dropWhile];have k9:=he9.cell;have f9:=run_loadVar_blk hp9 52 underlying52 rfl (by kernel_rfl);refine⟨_,results_cc (v:=.agg zPc) (x:=.int .i64 260) results57 rfl rfl f9 (by simp[go_sem,k9,loadVar]),?_⟩;exact PsA.no (gB.trans (hw9.below gB.size (by simp))) gN):P:=h
attribute [local go_sem] Oper.semAt_some
structure PsA (s:List UInt8)(w:World)(e:Ending)(w':World):Prop where
 below:Below w.heap.size w w'
 out:∃(y:Pk)(h:H3)(z:Int),e=.returned (.tuple #[.agg (y.cells h).toArray,.int .i64 z])/\((z=0/\parsePk s=some y)\/(z≠0/\parsePk s=none))/\∀M,(∀b∈M,b<w.heap.size)->PkN w' y h M
theorem PsA.no{s:List UInt8}{w w':World}(hb:Below w.heap.size w w')(h:parsePk s=none):PsA s w (.returned (.tuple #[.agg zPc,.int .i64 260])) w':=
 ⟨hb,zPk 0,h3Z,260,rfl,.inr ⟨by decide,h⟩,fun M _=>PkN.zero _ _ ⟨rfl,rfl,rfl⟩ M⟩
theorem Leaves_congr{P:Program}{fn:Func}{t t':Array Value}{R:Ending->World->Prop}(h:results fn t=results fn t'):∀(ds:List Deferred)(u:FrameMode)(w:World),Leaves P fn t R ds u w=Leaves P fn t' R ds u w
 | [],u,w=>by cases u<;>simp only[Leaves,h]
 |d::ds,u,w=>by have ih:=Leaves_congr h (R:=R) (P:=P) ds;simp only[Leaves,ih]
theorem dst_free{ops:Array Oper}{i:Nat}{oi:Oper}(hi:ops[i]?=some oi)(h:ops.all (fun o=>o.dst !=some 2&&o.dst !=some 3)=true):oi.dst≠some 2/\oi.dst≠some 3:=by obtain⟨hlt,rfl⟩:=Array.getElem?_eq_some_iff.1 hi;have:=Array.all_eq_true.1 h i hlt;simpa using this
theorem box_pk{w:World}{p b:Nat}{T:TypeId}{v:Value}(h:Blk w p zPc 52)(k:Boxed w b T v):b≠p:=fun e=>by have h1:w.heap[p]?=_:=h;have h2:w.heap[b]?=_:=k;rw[e,h1]at h2;have h3:=(Obj.cells.inj (Option.some.inj h2)).1;have h4:=congrArg Array.size h3;exact absurd h4 (by show¬(24=1);decide)
theorem wire_LeftB{w:World}{p:Nat}{a:Option Addr}{n c:Nat}(h1:Blk w p #[.slice a n c,.bool true] 94):Calls prog 25 #[.pointer (some ⟨p,0,none⟩)] w fun e w'=>e=.returned (.int .i64 n)/\w=w':=by
 have k1:=h1.cell 1;have k0:=h1.cell 0;simp at k0;have CN:Hid (Calls prog 44 #[.pointer (some ⟨p,0,none⟩)] w fun e w'=>e=.returned (.bool false)/\w=w'):=hid (by go_enter func44,ntmps44;go_wp2;go_ret;exact⟨rfl,rfl⟩)
 go_enter func25,ntmps25;go_wp2_with (go_at_call 44;refine CN.mono ?_;rintro e w' ⟨rfl,rfl⟩)
 go_ret;exact⟨rfl,rfl⟩
structure PtI (w:World)(pc:Array Value)(z:Pk)(hh:H3)(kb rb q:Nat)(cs:Array Value)(b:Nat->Nat)(n9:Nat)(W:World):Prop where
 below:Below w.heap.size w W
 pk:Blk W w.heap.size pc 52
 er:Boxed W (w.heap.size+1) 31 (.int .i64 0)
 shp:Blk W kb cs 150
 rdr:Blk W rb #[.pointer (some ⟨q,0,none⟩)] 161
 left:∃a c,Blk W q #[.slice a n9 c,.bool true] 94
 box:∀k,4<=k->k<=11->LiAt b k W
 rows:∀M,(∀y∈M,y<w.heap.size+2)->PkN W z hh M
theorem PtI.step{w:World}{pc:Array Value}{z:Pk}{hh:H3}{kb rb q:Nat}{cs:Array Value}{b:Nat->Nat}{n9:Nat}{W W':World}(h:PtI w pc z hh kb rb q cs b n9 W)(hb:Below W.heap.size W W'):PtI w pc z hh kb rb q cs b n9 W':=by obtain⟨a,c,hl⟩:=h.left;exact⟨h.below.trans (hb.mono h.below.size),h.pk.below hb,boxed_below h.er hb,h.shp.below hb,h.rdr.below hb,⟨a,c,hl.below hb⟩,fun k h4 h11=>LiB.below (h.box k h4 h11) hb,fun M hM=>(h.rows M hM).step (M':=[]) (Wrote.of_below hb) (fun _ hx=>by cases hx) (fun x hx=>.inl hx)⟩
theorem PkN.inn{w:World}{p:Pk}{h:H3}{M:List Nat}(k:PkN w p h M):p.In w h:=⟨k.lw.at',k.lc.at',k.lf.at'⟩
theorem pk_Parse(a:Option Addr)(n c:Nat)(s:List UInt8)(w:World)(hrow:RowAt w a n c (bs s))(hn:n<=65536):Calls prog 57 #[.slice a n c] w (PsA s w):=by
 have hmf:∀(fn:Fn)(first cap:Array Value)(w:World),(Instr.makeFunc fn first cap).run prog w=.ok (.func fn first cap) w:=fun _ _ _ _=>rfl;have CM:=hid pk_must;have hl:s.length=n:=by have:=hrow.len;rw[bs_len]at this;exact this
 obtain⟨W0,hW0⟩:=gen_of (w.alloc (.cells #[.int .i64 0,.bool false,.bool false,.int .i64 0,.string ⟨#[]⟩,.string ⟨#[]⟩,.int .i64 0,.string ⟨#[]⟩,.bool false,.int .i64 0,.bool false,.string ⟨#[]⟩,.string ⟨#[]⟩,.int .i64 0,.bool false,.bool false,.bool false,.string ⟨#[]⟩,.string ⟨#[]⟩,.bool false,.int .i64 0,.slice none 0 0,.slice none 0 0,.slice none 0 0] 52));have s0:W0.heap.size=w.heap.size+1:=by rw[<-hW0];simp
 obtain⟨W1,hW1⟩:=gen_of (W0.alloc (.cells #[.int .i64 0] 31));have s1:W1.heap.size=w.heap.size+2:=by rw[<-hW1];simp;omega
 have b0:Below w.heap.size w W0:=by rw[<-hW0];exact bel_refl.alloc nat_le_rfl _
 have b1:Below w.heap.size w W1:=by rw[<-hW1];exact b0.alloc b0.size _
 have p1:Blk W1 w.heap.size zPc 52:=by rw[<-hW1,<-hW0];exact(Blk.new _ _ _).alloc _
 have e1:Boxed W1 (w.heap.size+1) 31 (.int .i64 0):=by have:=Boxed.new W0 31 (.int .i64 0);rw[hW1,s0]at this;exact this
 have P1:=hid p1;have E1:=hid e1;have B1:=hid b1;have HR:=hid (hrow.below b1);have HRW:=hid (fun W (hb:Below w.heap.size w W)=>hrow.below hb);have HL:=hid hl;clear p1 e1 b1 b0 hrow hl;by_cases h2:2<=n
 ·have d:decide (2<=(n:Int))=true:=decide_eq_true (by omega);obtain⟨x0,r,hs⟩:∃x r,s=x::r:=by
   cases s with
   | nil=>have:=HL.out;simp at this;omega
   | cons x r=>exact⟨x,r,rfl⟩
  have hrl:Hid (r.length+1=n):=hid (by rw[<-HL.out,hs];rfl);have hrr:RowAt W1 (cutA a c 1) (n-1) (c-1) (bs r):=by have h9:=HR.from (i:=1) (by omega);rw[show(bs s).drop 1=bs r by rw[hs];simp[bs]]at h9;exact h9
  have hcut:=fun W=>run_cut_l Tryz.uelB Tryz.szB a n c (1:Int) 1 rfl (by omega) W;have CL:=hid (len_read _ _ _ r W1 hrr);have hpp:Hid (parsePk s=if (readL r).2.2=0/\(readL r).2.1≠0/\(r.length:Int)-(readL r).2.1=(readL r).1 then(readP ((x0.toNat / 16:Nat):Int) (x0.toNat%16) (r.drop (readL r).2.1.toNat)).bind fun x=>if x.2=[]/\flagN x.1=x0.toNat%16/\rightP x.1 then some x.1 else none else none):=hid (by rw[hs];rfl);obtain⟨rn,hrn⟩:=gen_of ((readL r).1);obtain⟨rs,hrs⟩:=gen_of ((readL r).2.1);obtain⟨re,hre⟩:=gen_of ((readL r).2.2);rw[hrn,hrs,hre]at CL hpp;replace hrn:=hid hrn;replace hrs:=hid hrs;replace hre:=hid hre;replace hs:=hid hs;clear hrr;go_enter_defers func57,ntmps57;go_wp2_with (go_at_call 95;refine(CM _ _).mono ?_;rintro e w2 ⟨rfl,rfl⟩)
  refine CL.mono ?_;rintro e w2 ⟨rfl,hb2⟩;have P2:=hid (P1.below hb2);have E2:=boxed_below E1.out hb2;have B2:=hid (B1.trans (hb2.mono B1.size));have k2:=E2.cell;have f2:=E2.frozen;have E2:=hid E2;clear hb2;go_upto_region 4 with fail;have hw3':Wrote [w.heap.size+1] w2 (w2.setCell ⟨w.heap.size+1,0,none⟩ (.int .i64 re)):=Wrote.setCell w2 _ (by simp) _;obtain⟨w3,hw3⟩:=gen_of (w2.setCell ⟨w.heap.size+1,0,none⟩ (.int .i64 re));have E3:Boxed w3 (w.heap.size+1) 31 (.int .i64 re):=by rw[<-hw3];exact E2.set _
  rw[hw3]at hw3' ⊢;have P3:=hid (P2.keepW hw3' (by simp));have B3:=hid (B2.trans (hw3'.below B2.size (by simp)));have k3:=E3.cell;have E3:=hid E3;have R3:=hid (HR.below (((Below.refl W1.heap.size W1)).trans bel_refl));clear hw3 hw3' k2 f2 P2 E2 B2;by_cases h0:re=0
  ·subst h0;by_cases h1:rs=0
   ·have hno:Hid (parsePk s=none):=hid (by rw[hpp.out,if_neg (by omega)]);have d1:decide (0<rs)=false:=decide_eq_false (by omega);go_wp2_with (go_at_call 95;refine(CM _ _).mono ?_;rintro e w4 ⟨rfl,rfl⟩)
    have gP:=P3.out;have gE:=E3.out;have gB:=B3.out;have gN:=hno.out;exact bk_PbA_gaveup1
   obtain ⟨m,hm1,hm2,hm3,hm4,hm5⟩:=readL_some (l:=r) (by rw[hre.out]) (by rw[hrs.out];exact h1);have hsz4:=sizeL_le4 (m:Int);obtain⟨sz,hsz⟩:=gen_of (sizeL (m:Int));rw[hsz]at hm3 hm4 hm5 hsz4;have hrz:rs=(sz:Int):=by rw[<-hrs.out,hm3]
   have d1:decide (0<rs)=true:=decide_eq_true (by omega);have hrb:0<rs/\rs<=4:=by omega
   by_cases h3:(n:Int)-1-rs=rn
   ·have hyes:Hid (parsePk s=(readP ((x0.toNat / 16:Nat):Int) (x0.toNat%16) (r.drop rs.toNat)).bind fun x=>if x.2=[]/\flagN x.1=x0.toNat%16/\rightP x.1 then some x.1 else none):=hid (by rw[hpp.out,if_pos ⟨rfl,h1,by have:=hrl.out;omega⟩]);have hb0:=hrb.1;have hb4:=hrb.2;have d3:((n:Int)-1-rs==rn)=true:=by simpa using h3
    replace hm1:=hid hm1;replace hm5:=hid hm5;replace hrz:=hid hrz;obtain⟨bb,off,ha,hcell⟩:=(HRW w3 B3.out).byte (show 0<n by omega);have hcell3:w3.cell? ⟨bb,off+0,none⟩=some (.int .u8 ((x0.toNat:Nat):Int)):=by
     have e9:s[0]?.getD 0=x0:=by rw[hs.out];rfl
     rw[e9]at hcell;exact hcell
    obtain⟨xz,hxz⟩:=gen_of (((x0.toNat:Nat):Int):Int);have hx0:0<=xz:=by omega
    have hx1:xz<256:=by have:=x0.toNat_lt;omega
    rw[hxz]at hcell3;replace hxz:=hid hxz;subst ha;simp only[Nat.add_zero]at hcell3;clear hrb hm2 hm3 hm4 hsz hsz4 hpp hcell h3;go_upto_region 5 with(go_at_call 95;refine(CM _ _).mono ?_;rintro e w4 ⟨rfl,rfl⟩);have CS:=hid (pk_shapes w3);go_upto_region 6 with fail
    go_wp2_with fail
    refine CS.mono ?_;rintro e w4 ⟨m4,b,rfl,⟨hm4,hc4⟩,hb4⟩;obtain⟨g1,g2,g3,g4,g5,hg,hone,hsome⟩:=shapeG_agg b (xz / 16);have hlk:=look_sh hm4 (xz / 16) true;rw[hg]at hlk;obtain⟨is,his⟩:=gen_of ((shapeG b (xz / 16)).isSome);rw[his,if_pos rfl]at hlk;have P4:=hid (P3.below hb4);have E4:=hid (boxed_below E3.out hb4);have B4:=hid (B3.trans (hb4.mono B3.size));have HC4:=hid hc4;have hone:=hid hone;have hsome:=hid hsome;have his:=hid his;have hg:=hid hg;have hp4:Hid (w.heap.size+1<w4.heap.size):=hid E4.lt;clear hb4 hc4 hm4 k3 hcell3;go_upto_region 7 with(refine wS 150 5 rfl _ _ #[g1,g2,g3,g4,g5] rfl rfl (Blk.new _ _ _) rfl (by rfl) hone.out ?_;intro w5 hw5 hr5);have b5:Below w4.heap.size w4 w5:=(bel_refl.alloc nat_le_rfl _).trans (hr5.below (by simp) (by simp));have P5:=hid (P4.below b5);have E5:=hid (boxed_below E4.out b5);have B5:=hid (B4.trans (b5.mono B4.size));have HC5:Hid (∀k,4<=k->k<=11->LiAt b k w5):=hid fun k h4 h11=>LiB.below (HC4 k h4 h11) b5;have G5:=hid hw5;have hs5:w4.heap.size+1<=w5.heap.size:=by have:=hr5.size;simp at this;omega
    clear hr5 b5 hw5 hlk P4 E4 HC4 P3 E3;try simp only[PT]
    have hkx:Hid (((x0.toNat / 16:Nat):Int)=xz / 16):=hid (by rw[<-hxz.out];omega);rw[hkx]at hyes;cases is with
    | false=>
     have hno:Hid (parsePk s=none):=hid (by
      have h14:=shapeG_none (Option.isNone_iff_eq_none.1 (Option.isSome_eq_false_iff.1 his.out));rw[hyes.out];cases h:readP (xz / 16) (x0.toNat%16) (r.drop rs.toNat)with
      | none=>rfl
      |some x=>obtain⟨y,t⟩:=x;simp only[Option.bind_some];rw[if_neg];rintro⟨h1,h2,h3⟩;subst h1;have h4:=(readP_some h).2;have h5:=rightP_kind h3;rw[h4]at h5;exact h14 h5)
     go_wp2_with (go_at_call 95;refine(CM _ _).mono ?_;rintro e w6 ⟨rfl,rfl⟩)
     have gP:=P5.out;have gE:=E5.out;have gB:=B5.out;have gN:=hno.out;exact bk_PbA_gaveup1
    | true=>
     obtain⟨nn,hnn,hnn1,hv⟩:=shapeG_some (hsome his.out);obtain⟨g1',g2',g3',g4',g5',hv',hrd⟩:=pk_rd b nn hnn1;rw[hv]at hv';simp only[Value.agg.injEq,Array.mk.injEq,List.cons.injEq,and_true]at hv';obtain⟨rfl,rfl,rfl,rfl,rfl⟩:=hv';have hrd:=hid hrd;have hnn:=hid hnn;have HV:Hid (shpV b nn=.agg #[g1,g2,g3,g4,g5]):=hid hv;clear hv hg;go_upto_region 8 with(go_at_call 95;refine(CM _ _).mono ?_;rintro e w6 ⟨rfl,rfl⟩);have hszr:sz<=r.length:=hm5.out;have hrz':=hrz.out;have hcut2:=fun W=>run_cut_l Tryz.uelB Tryz.szB (some ⟨bb,off,none⟩) n c (1+rs) (1+sz) (by omega) (by have:=hrl.out;omega) W;have hR5:=(HRW w5 B5.out).from (i:=1+sz) (by have:=hrl.out;omega);rw[show(bs s).drop (1+sz)=bs (r.drop sz) by rw[hs.out];unfold bs;rw[<-List.map_drop];simp[Nat.add_comm]]at hR5;have CN:=hid (wire_NewReader _ _ _ (r.drop sz) w5 hR5 (by omega));clear hrz' hszr hR5;go_wp2_with fail;refine CN.mono ?_;rintro e w6 ⟨q,rfl,hq,R6,hb6⟩;have hqs:Hid (w.heap.size+1<q):=hid (by have:=E5.lt;omega);have hql:Hid (q<w6.heap.size):=hid R6.lt;have P6:=hid (P5.below hb6);have E6:=hid (boxed_below E5.out hb6);have B6:=hid (B5.trans (hb6.mono B5.size));have HC6:Hid (∀k,4<=k->k<=11->LiAt b k w6):=hid fun k h4 h11=>LiB.below (HC5 k h4 h11) hb6;have G6:=hid (G5.below hb6);have hone6:Hid (∀v∈#[Value.pointer (some ⟨q,0,none⟩)].toList,v.oneCell'=true):=hid (by simp[Value.oneCell']);have R6:=hid R6;have hq5:=hid hq;have hs6:=hb6.size
     have HC5':=hid HC5.out;clear hb6 P5 E5 HC5 hcut2 hcut hq;go_upto_region 9 with(refine wS 161 1 rfl _ _ #[.pointer (some ⟨q,0,none⟩)] rfl rfl (Blk.new _ _ _) rfl (by rfl) hone6.out ?_;intro w7 hw7 hr7);have b7:Below w6.heap.size w6 w7:=(bel_refl.alloc nat_le_rfl _).trans (hr7.below (by simp) (by simp));have P7:=P6.below b7;have E7:=boxed_below E6.out b7;have B7:=B6.trans (b7.mono B6.size);have HC7:∀k,4<=k->k<=11->LiAt b k w7:=fun k h4 h11=>LiB.below (HC6 k h4 h11) b7;have G7:=G6.below b7;have R7:=R6.below b7;have hqb:Hid (∀k,4<=k->k<=11->b k+4≠q):=hid fun k h4 h11 e=>by have h9:=(HC5' k h4 h11).rd.lt;have:=hq5.out;omega
     obtain⟨ff,fc,rfl,hff,hrc⟩:=hrd.out;have hrc:=hid hrc;have xc7:w7.cell? ⟨bb,off,none⟩=some (.int .u8 xz):=by
      obtain⟨b2,o2,e2,hc2⟩:=(HRW w7 B7).byte (show 0<n by omega);cases e2;have e9:s[0]?.getD 0=x0:=by rw[hs.out];rfl
      rw[e9,hxz.out]at hc2;simpa using hc2
     have hs7:=b7.size;clear hr7 b7 P6 E6 HC6 G6 R6;try simp only[PT]
     have bD:Below w7.heap.size w7 w7.drew:=bel_refl.drew;have P8:=P7.below bD;have E8:=boxed_below E7 bD;have B8:=B7.trans (bD.mono B7.size);have G8:=G7.below bD;have R8:=R7.below bD;have X8:=hw7.below bD;have c8:w7.drew.cell? ⟨bb,off,none⟩=some (.int .u8 xz):=xc7;have HC8:∀k,4<=k->k<=11->LiAt b k w7.drew:=fun k h4 h11=>LiB.below (HC7 k h4 h11) bD;refine regionPO [(1000,fun w'=>Blk w' w4.heap.size #[g1,g2,g3,g4,fnV ff fc] 150),(1000,fun w'=>Blk w' w6.heap.size #[.pointer (some ⟨q,0,none⟩)] 161),(1000,fun w'=>w'.cell? ⟨bb,off,none⟩=some (.int .u8 xz))] ?_ (by kernel_rfl) ⟨G8,X8,c8,trivial⟩ fun KQ hKQ=>?_
     ·intro i oi hi c aa vv ww hh;have hd:=dst_free hi (by kernel_rfl);clear hi;obtain⟨dst,_,_,_,_,_⟩:=oi;cases dst with
      | none=>exact hh
      |some d=>have h2:d≠2:=fun e=>hd.1 (by rw[e]);have h3:d≠3:=fun e=>hd.2 (by rw[e]);refine(Leaves_congr ?_ _ _ _).mp hh;simp[results,results57,Act.put,h2,h3]
     try simp only[PT]
     obtain⟨WD,hWD⟩:=gen_of w7.drew;rw[hWD]at P8 E8 B8 G8 R8 X8 HC8 ⊢;refine tQ [0] ?_;refine loadQ 1 rfl (by kernel_rfl) (by kernel_rfl) rfl rfl 0 rfl (by kernel_rfl) (.func (.func ff) #[] fc) (fun w' hf=>by(have k0:=hf.cell 4;unfold fnV at k0;go_simp<;>with_reducible rfl)) ?_;simp only[PT];refine loadQ 2 rfl (by kernel_rfl) (by kernel_rfl) rfl rfl 1 rfl (by kernel_rfl) (.agg #[.pointer (some ⟨q,0,none⟩)]) (fun w' hf=>by(exact run_load_blk hf 161 underlying161 rfl (by kernel_rfl))) ?_;simp only[PT];have hbits:bits .and .u8 xz 15=((x0.toNat%16:Nat):Int):=by rw[<-hxz.out];exact and_low15 _ x0.toNat_lt
     obtain⟨fz,hfz⟩:=gen_of (((x0.toNat%16:Nat):Int):Int);rw[hfz]at hbits;have hfz0:0<=fz:=by omega
     have hfz1:fz<16:=by omega
     refine tQ [3,4] ?_;refine loadQ 5 rfl (by kernel_rfl) (by kernel_rfl) rfl rfl 2 rfl (by kernel_rfl) (.int .u8 xz) (fun w' hf=>by(have k0:=hf;go_simp<;>with_reducible rfl)) ?_;simp only[PT];refine tQ [6,7] ?_;have CR:=hrc WD _ q (r.drop sz) (x0.toNat%16) (Nat.mod_lt _ (by decide)) (fun h4 h11=>HC8 nn h4 h11) (fun h4 h11=>hqb.out nn h4 h11) R8 (by simp;have:=hrl.out;omega);rw[hfz]at CR;replace hfz:=hid hfz;have hbits':=hid hbits;refine sQ 8 fun K hK=>?_;simp only[GO];unfold fnC at hff;go_simp;refine CR.mono ?_;rintro e w9 ⟨hw9,⟨hno,rfl⟩ | ⟨y,hh,r2,hyes2,rfl,R9,hN9⟩⟩
     ·have hno2:Hid (parsePk s=none):=hid (by rw[hyes.out,hnn.out,hrz.out,Int.toNat_natCast,hno];rfl);have hq0:=hqs.out;have P9:=P8.keepW hw9 (by simp;omega);have E9:=hw9.boxed (by simp;omega) E8;have B9:=B8.trans (hw9.below B8.size (by simp;omega));refine hKQ.out _ _ _ ?_;have gP:=P9;have gE:=E9;have gB:=B9;have gN:=hno2.out;exact bk_PbA_gaveup1
     have hq0:=hqs.out;have hq6:=hql.out;have hq5':=hq5.out;have hps:Hid (parsePk s=if r2=[]/\flagN ({y with kind:=(nn:Int)}:Pk)=x0.toNat%16/\rightP ({y with kind:=(nn:Int)}:Pk)then some ({y with kind:=(nn:Int)}:Pk)else none):=hid (by rw[hyes.out,hnn.out,hrz.out,Int.toNat_natCast,hyes2];rfl);have hsm:=readP_small hyes2 (by simp;have:=hrl.out;omega);have P9:=P8.keepW hw9 (by simp;omega);have E9:=hw9.boxed (by simp;omega) E8;have B9:=B8.trans (hw9.below B8.size (by simp;omega));have G9:=G8.keepW hw9 (by simp;omega);have X9:=X8.keepW hw9 (by simp;omega);have xc:Hid (∀W,Below w.heap.size w W->W.cell? ⟨bb,off,none⟩=some (.int .u8 xz)):=hid fun W hb=>by
      obtain⟨b2,o2,e2,hc2⟩:=(HRW W hb).byte (show 0<n by omega);cases e2;have e9:s[0]?.getD 0=x0:=by rw[hs.out];rfl
      rw[e9,hxz.out]at hc2;simpa using hc2
     have HC9:∀k,4<=k->k<=11->LiAt b k w9:=fun k h4 h11=>by have h9:=(HC5' k h4 h11).rd.lt;exact LiB.wrote (HC8 k h4 h11) hw9 (by simp;omega) (by simp;omega) (by simp;omega) (by simp;omega) (by simp;omega)
     have hyes2:=hid hyes2;have hsm:=hid hsm;have hwd:Hid (w.heap.size+1<WD.heap.size):=hid E8.lt;have hnb9:Hid (∀k,4<=k->k<=11->b k≠w.heap.size/\b k+1≠w.heap.size/\b k+2≠w.heap.size/\b k+3≠w.heap.size/\b k+4≠w.heap.size):=hid fun k h4 h11=>by have x:=HC9 k h4 h11;exact⟨box_pk P9 x.fl,box_pk P9 x.has,box_pk P9 x.may,box_pk P9 x.wr,box_pk P9 x.rd⟩
     refine hK _ _ ⟨⟨fun _=>G9,fun _=>X9,fun _=>xc.out _ B9,trivial⟩,?_⟩;clear hK K CR;try simp only[PT]
     refine sQ 9 fun K hK=>?_;simp only[GO];refine wW 52 24 rfl w.heap.size zPc (y.cells hh).toArray rfl rfl P9 rfl rfl (Pk.one y hh) fun w10 hw10 hr10=>?_;have E10:=hr10.boxed (by simp) E9;have B10:=B9.trans (hr10.below B9.size (by simp));have hlw:=hp4.out;have G10:=G9.keepW hr10 (by simp;omega);have X10:=X9.keepW hr10 (by simp;omega);obtain⟨⟨a9,n9,c9,K9,hr9, -, -⟩, -, -⟩:=R9;have hn9:Hid (r2.length=n9):=hid (by have:=hr9.len;rwa [bs_len]at this);have K10:=K9.keepW hr10 (by simp;omega);have HC10:∀k,4<=k->k<=11->LiAt b k w10:=fun k h4 h11=>by have x:=HC9 k h4 h11;exact LiB.wrote x hr10 (by simpa using box_pk P9 x.fl) (by simpa using box_pk P9 x.has) (by simpa using box_pk P9 x.may) (by simpa using box_pk P9 x.wr) (by simpa using box_pk P9 x.rd)
     refine hK _ _ ⟨⟨fun _=>G10,fun _=>X10,fun _=>xc.out _ B10,trivial⟩,?_⟩;clear hK K;try simp only[PT]
     refine dQ (hKQ.out _ _ _ ?_);clear hKQ KQ;obtain⟨z,hz⟩:∃z:Pk,{y with kind:=(nn:Int)}=z:=⟨_,rfl⟩;rw[hz]at hps hsm;have hzk:z.kind=(nn:Int):=by rw[<-hz]
     have hZ9:Hid (∀M,(∀b∈M,b<WD.heap.size)->PkN w9 z hh M):=hid (by rw[<-hz];exact fun M hM=>⟨(hN9 M hM).lw,(hN9 M hM).lc,(hN9 M hM).lf⟩);have hset:(y.cells hh).toArray.setIfInBounds 0 (.int .i64 (nn:Int))=(z.cells hh).toArray:=by rw[<-hz];rfl
     obtain⟨g1',g2',g3',g4',g5',hv',hfl⟩:=pk_fl b nn hnn1;rw[HV]at hv';simp only[Value.agg.injEq,Array.mk.injEq,List.cons.injEq,and_true]at hv';obtain⟨rfl,rfl,rfl,rfl, -⟩:=hv';have E10':=hid E10;have hsz24:Hid ((z.cells hh).toArray.size=24):=hid rfl;have CK:=hid (fun W (hin:z.In W hh)=>pk_Check z hh hsm.1 ⟨hsm.1.wants,hsm.1.filters⟩ W hin);obtain⟨pc,hpc⟩:=gen_of ((z.cells hh).toArray);rw[hpc]at hset hsz24 CK;have ic:Hid ((prog.info? 52).map (·.size)=some pc.size):=hid (by rw[hsz24];kernel_rfl);have B10':=hid B10;have G10':=hid G10;have X10':=hid X10;have K10':=hid K10;have HC10':=hid HC10;have hr10':=hid hr10;clear E10 B10 G10 X10 K10 HC10 hr10 P9 E9 B9 G9 X9 HC9 K9 hr9 hN9 hz G8 X8 c8 R8 P8 E8 B8 HC8 hw9;go_upto_region 12 with(refine wpList_store_cell rfl 45 52 _ _ rfl (fun w=>by kernel_rfl) w.heap.size 0 _ _ rfl rfl hw10 (by exact(by decide:0<24)) rfl rfl ?_;intro w11 hp11 hw11);replace hp11:Blk w11 w.heap.size ((y.cells hh).toArray.setIfInBounds 0 (.int .i64 (nn:Int))) 52:=hp11;rw[hset]at hp11;have HT:PtI w pc z hh w4.heap.size w6.heap.size q #[g1,g2,g3,g4,fnV ff fc] b n9 w11:=by
      have hw2:=hr10'.trans hw11;have hp4':=hp4.out;exact⟨B10'.trans (hw11.below B10'.size (by simp)),hp11,hw11.boxed (by simp) E10'.out,G10'.keepW hw11 (by simp;omega),X10'.keepW hw11 (by simp;omega),⟨a9,c9,K10'.keepW hw11 (by simp;omega)⟩,
       fun k h4 h11=>by obtain⟨b0,b1,b2,b3,b4⟩:=hnb9 k h4 h11;exact LiB.wrote (HC10' k h4 h11) hw11 (by simpa using b0) (by simpa using b1) (by simpa using b2) (by simpa using b3) (by simpa using b4),
       fun M hM=>(hZ9 (w.heap.size::M) (fun b hb=>by
        have:=hwd.out;rcases List.mem_cons.1 hb with rfl | hb
        ·omega
        have:=hM b hb;omega)).step hw2 (fun x hx=>.inl (by simp at hx;simp[hx])) (fun x hx=>.inl (List.mem_cons_of_mem _ hx))⟩
     replace HT:=hid HT;have k2:w11.cell? ⟨w4.heap.size,2,none⟩=some g3:=HT.shp.cell 2;clear hp11 hw11 hw10 E10' B10' G10' X10' K10' HC10' hr10' hset;obtain⟨gz,hgz⟩:=gen_of (((flagN z:Nat):Int):Int);obtain⟨nb,hnb,hgnb,hfl2⟩:∃nb:Bool,(∀W,(binOp .neq 146 g3 .nilFunc).run prog W=.ok (.bool nb) W)/\(∀s1 s2 W,(eqGuard .neq 146 s1 s2 g3 .nilFunc).run prog W=.ok () W)/\((nb=false/\gz=0)\/(nb=true/\∃f c,g3=fnV f c/\fnC f/\∀W,ShK b nn W->Calls prog f (#[.agg pc]++c) W fun e w'=>e=.returned (.int .i64 gz)/\Below W.heap.size W w')):=by
      rcases hfl with⟨rfl,hf0⟩ | ⟨f3,c3,rfl,hff3,hfc3⟩
      ·exact⟨false,nil_fl,gnil_fl,.inl ⟨rfl,by rw[<-hgz,hf0 z hzk];rfl⟩⟩
      refine⟨true,fun W=>func_fl f3 c3 W,fun s1 s2 W=>gfunc_fl f3 c3 s1 s2 W,.inr ⟨rfl,f3,c3,rfl,hff3,fun W hsh=>?_⟩⟩;have:=hfc3 W z hh hzk (fun h3=>by have h9:=hsm.2 h3;exact h9) hsh
      rw[hpc,hgz]at this;exact this
     have hfl2:=hid hfl2;have hgz:=hid hgz;clear hfl;replace hpc:=hid hpc;go_upto_if 71 with fail;try simp only[PT]
     have hnb:=hid hnb;have hgnb:=hid hgnb;go_cut [10]from 76 (fun s10 wx=>s10=.int .i64 gz/\Hid (PtI w pc z hh w4.heap.size w6.heap.size q #[g1,g2,g3,g4,fnV ff fc] b n9 wx))
     case first=>
      have hnb:=hnb.out;have hgnb:=hgnb.out;rcases hfl2.out with⟨rfl,hf0⟩ | ⟨rfl,f3,c3,rfl,hff3,hfc3⟩
      ·subst hf0;go_wp2_with fail
       go_meet
       case rel=>exact⟨rfl,HT⟩
      unfold fnV at k2;unfold fnC at hff3;have CF:=hid (hfc3 w11 (fun h4 h11=>HT.box _ h4 h11));have ta:=HT.pk;have tok:=hid trivial;clear hfl2 hfc3 hnb hgnb;go_wp2_with (clear tok;refine wL 52 rfl rfl ta underlying52 ?_ rfl rfl ic.out);refine CF.mono ?_;rintro e w12 ⟨rfl,hb12⟩;have HT12:=hid (HT.step hb12);clear hb12 ta k2;go_wp2_with fail;go_meet
      case rel=>exact⟨rfl,HT12⟩
     case rest=>
      obtain⟨rfl,HK⟩:=hcut;obtain⟨wa,hwa⟩:=gen_of wc;rw[hwa]at HK ⊢;clear hwa k2 hnb hgnb hfl2 HT hff;obtain⟨la,lc,hleft⟩:=HK.out.left;have CL:=hid (wire_LeftB hleft);have k6:wa.cell? ⟨w6.heap.size,0,none⟩=some (.pointer (some ⟨q,0,none⟩)):=HK.out.rdr.cell 0;have kx:wa.cell? ⟨bb,off,none⟩=some (.int .u8 xz):=xc _ HK.out.below;have hbits:=hbits'.out;clear hleft;by_cases h9:n9=0
      ·have d9:((n9:Int)==0)=true:=by rw[h9];rfl
       by_cases hfe:gz=fz
       ·have dfe:(gz==fz)=true:=by simpa using hfe
        have CKx:=CK wa (HK.out.rows [] (by simp)).inn;have CKx:=hid CKx;have ta:=HK.out.pk;have tok:=hid trivial;go_wp2_with (first
         | (go_at_call 25;refine CL.mono ?_;rintro e w12 ⟨rfl,rfl⟩)
         | (clear tok;refine wLG 52 rfl rfl ta underlying52 rfl ?_ ic.out))
        refine CKx.mono ?_;rintro e w13 ⟨cz,rfl,hcz,hb13⟩;have HK13:=hid (HK.out.step hb13);have hcz:=hid hcz;clear hb13 ta k6 kx CL CKx;by_cases hc0:cz=0
        ·have dc:(cz==0)=true:=by simpa using hc0
         have hone:=hid (show∀v∈pc.toList,v.oneCell'=true by rw[<-hpc.out];exact Pk.one z hh);have hyz:Hid (parsePk s=some z):=hid (by rw[hps.out,if_pos ⟨List.eq_nil_of_length_eq_zero (by rw[hn9];exact h9),by have:=hgz.out;have:=hfz.out;omega,hcz.1 hc0⟩])
         have tb:=HK13.pk;clear hcz;go_wp2_with (first
          | (go_at_call 95;refine(CM _ _).mono ?_;rintro e w14 ⟨rfl,rfl⟩)
          | (refine wL 52 rfl rfl tb underlying52 ?_ rfl rfl ic.out)
          | (refine wS 52 24 rfl w.heap.size pc pc rfl rfl tb hsz24.out hsz24.out hone.out ?_;intro w14 hw14 hr14;have E14:=hr14.boxed (by simp) HK13.er;have k14:=E14.cell;have f14:=E14.frozen))
         have hs15:Wrote [w.heap.size+1] w14 (w14.setCell ⟨w.heap.size+1,0,none⟩ (.int .i64 0)):=Wrote.setCell w14 _ (by simp) _;have P15:=hw14.keepW hs15 (by simp);have E15:=E14.set (.int .i64 0);have B14:=HK13.below.trans (hr14.below HK13.below.size (by simp));have B15:=B14.trans (hs15.below B14.size (by simp));have hall:Wrote [w.heap.size,w.heap.size+1] w13 (w14.setCell ⟨w.heap.size+1,0,none⟩ (.int .i64 0)):=(hr14.sub (by simp)).trans (hs15.sub (by simp));obtain⟨w15,hw15⟩:=gen_of (w14.setCell ⟨w.heap.size+1,0,none⟩ (.int .i64 0));rw[hw15]at P15 E15 B15 hall ⊢;refine leaves_cons (f:=94) (args:=#[.pointer (some ⟨w.heap.size,0,none⟩),.pointer (some ⟨w.heap.size+1,0,none⟩)]) (by simp) (by simp[go_sem]) ?_;refine(pk_quiet _ _ w15).mono ?_;rintro e u' w16 ⟨rfl,rfl,rfl⟩;simp only[Leaves,settle,List.dropWhile];have k16:=E15.cell;have f16:=run_loadVar_blk P15 52 underlying52 rfl ic.out;refine⟨_,results_cc (v:=.agg pc) (x:=.int .i64 0) results57 rfl rfl f16 (by simp[go_sem,k16,loadVar]),?_⟩;refine⟨B15,z,hh,0,by rw[hpc.out],.inl ⟨rfl,hyz.out⟩,fun M hM=>?_⟩;exact(HK13.rows (w.heap.size::(w.heap.size+1)::M) (fun y hy=>by
          rcases List.mem_cons.1 hy with rfl | hy
          ·omega
          rcases List.mem_cons.1 hy with rfl | hy
          ·omega
          have:=hM y hy;omega)).step hall (fun x hx=>.inl (by simp at hx;rcases hx with rfl | rfl<;>simp)) (fun x hx=>.inl (List.mem_cons_of_mem _ (List.mem_cons_of_mem _ hx)))
        have dc:(cz==0)=false:=by simpa using hc0
        have hno:Hid (parsePk s=none):=hid (by rw[hps.out,if_neg (fun h=>hc0 (hcz.2 h.2.2))]);clear hcz;go_wp2_with (go_at_call 95;refine(CM _ _).mono ?_;rintro e w14 ⟨rfl,rfl⟩);have gP:=HK13.pk;have gE:=HK13.er;have gB:=HK13.below;have gN:=hno.out;exact bk_PbA_gaveup1
       have dfe:(gz==fz)=false:=by simpa using hfe
       have hno:Hid (parsePk s=none):=hid (by rw[hps.out,if_neg (fun h=>hfe (by have:=hgz.out;have:=hfz.out;have:=h.2.1;omega))]);go_wp2_with (first
        | (go_at_call 25;refine CL.mono ?_;rintro e w12 ⟨rfl,rfl⟩)
        | (go_at_call 95;refine(CM _ _).mono ?_;rintro e w14 ⟨rfl,rfl⟩))
       have gP:=HK.out.pk;have gE:=HK.out.er;have gB:=HK.out.below;have gN:=hno.out;exact bk_PbA_gaveup1
      have d9:((n9:Int)==0)=false:=by simpa using h9
      have hno:Hid (parsePk s=none):=hid (by rw[hps.out,if_neg (fun h=>h9 (by rw[<-hn9,h.1];rfl))]);go_wp2_with (first
       | (go_at_call 25;refine CL.mono ?_;rintro e w12 ⟨rfl,rfl⟩)
       | (go_at_call 95;refine(CM _ _).mono ?_;rintro e w14 ⟨rfl,rfl⟩))
      have gP:=HK.out.pk;have gE:=HK.out.er;have gB:=HK.out.below;have gN:=hno.out;exact bk_PbA_gaveup1
   have hno:Hid (parsePk s=none):=hid (by rw[hpp.out,if_neg (fun h=>h3 (by have:=hrl.out;omega))]);have hb0:=hrb.1;have hb4:=hrb.2;have d3:((n:Int)-1-rs==rn)=false:=by simpa using h3
   have hm1:=hid hm1;clear hrb hrz hm2 hm3 hm4 hm5 hsz hsz4 h3;go_wp2_with (go_at_call 95;refine(CM _ _).mono ?_;rintro e w4 ⟨rfl,rfl⟩);have gP:=P3.out;have gE:=E3.out;have gB:=B3.out;have gN:=hno.out;exact bk_PbA_gaveup1
  have hno:Hid (parsePk s=none):=hid (by rw[hpp.out,if_neg (fun h=>h0 h.1)]);have d0:(re==0)=false:=by simpa using h0
  go_wp2_with (go_at_call 95;refine(CM _ _).mono ?_;rintro e w4 ⟨rfl,rfl⟩)
  have gP:=P3.out;have gE:=E3.out;have gB:=B3.out;have gN:=hno.out;exact bk_PbA_gaveup1
 have d:decide (2<=(n:Int))=false:=decide_eq_false (by omega);have hno:Hid (parsePk s=none):=hid (by
  have:=HL.out
  match s,this with
  | [],_=>rfl
  | [x],_=>rfl
  | x::y::r,h=>simp at h;omega)
 go_enter_defers func57,ntmps57
 go_wp2_with (go_at_call 95;refine(CM _ _).mono ?_;rintro e w2 ⟨rfl,rfl⟩)
 have gP:=P1.out;have gE:=E1.out;have gB:=B1.out;have gN:=hno.out;exact bk_PbA_gaveup1
theorem parsePk_ok:ParsePkOK pkC:=fun W a n c s hrow hn=>(pk_Parse a n c s W hrow hn).mono fun e w' h=>⟨h.below,h.out⟩
end
section
attribute [local go_sem] Oper.semAt_some
structure BoI (w:World)(pc:Array Value)(l:List UInt8)(v:Value)(W:World):Prop where
 low:Below (w.heap.size+1) (w.alloc (.cells pc 52)) W
 own:W.ownsRow (w.heap.size+1) 5 1 v l.length (bs l)
section
variable {w:World} {pc:Array Value} {l m:List UInt8} {v v':Value} {W W1 W2:World}
theorem BoI.pk(h:BoI w pc l v W):Blk W w.heap.size pc 52:=(Blk.new w pc 52).keep (h.low.block _ (by omega))
theorem BoI.size(h:BoI w pc l v W):w.heap.size+1<=W.heap.size:=by have:=h.low.size;simpa using this
theorem BoI.below(h:BoI w pc l v W):Below w.heap.size w W:=((Below.refl w.heap.size w).alloc nat_le_rfl _).trans (h.low.mono (by omega))
theorem BoI.step(h:BoI w pc l v W)(hb:Below W.heap.size W W1):BoI w pc l v W1:=⟨h.low.trans (hb.mono h.size),ownsRow_below h.own hb⟩
theorem BoI.app(h:BoI w pc l v W)(how:W2.ownsRow (w.heap.size+1) 5 1 v' (l.length+m.length) (bs l++bs m))(hg:W.grownBy W2 v.ownBlock):BoI w pc (l++m) v' W2:=
 ⟨h.low.grown hg h.size (fun y hy=>(h.own.lt y hy).1),by rw[List.length_append,bs_app];exact how⟩
theorem BoI.start(hb:Below (w.heap.size+1) (w.alloc (.cells pc 52)) W):BoI w pc [] (.slice none 0 0) W:=⟨hb,World.ownsRow_nil _ _ _ _⟩
end
theorem flat_take_len{α:Type}(f:α->List UInt8)(l:List α)(k:Nat):((l.take k).flatMap f).length<=(l.flatMap f).length:=by
 conv=>rhs;rw[<-List.take_append_drop k l,List.flatMap_append,List.length_append]
 omega
theorem flat_take_succ{α:Type}(f:α->List UInt8)(l:List α)(k:Nat){x:α}(h:l[k]?=some x):(l.take (k+1)).flatMap f=(l.take k).flatMap f++f x:=by rw[List.take_add_one,h,List.flatMap_append];simp
def listB(p:Pk):List UInt8:=numB 2 p.id.toNat++(p.wants.flatMap wantB++(p.codes.flatMap (fun c=>numB 1 c.toNat)++p.filters.flatMap txtB))
theorem listB_is{p:Pk}(h:rightP p)(hk:4<=p.kind/\p.kind<=11):listB p=bodyP p:=by
 have ha:=h.2;unfold aloneP at ha;rw[if_neg (by omega),if_neg (by omega),if_neg (by omega)]at ha;unfold listB;by_cases k8:p.kind=8
 ·rw[if_pos k8]at ha;have e1:p.codes=[]:=(congrArg Pk.codes ha).symm;have e2:p.filters=[]:=(congrArg Pk.filters ha).symm;rw[bodyP_8 k8,e1,e2];simp
 rw[if_neg k8]at ha;by_cases k9:p.kind=9
 ·rw[if_pos k9]at ha;have e1:p.wants=[]:=(congrArg Pk.wants ha).symm;have e2:p.filters=[]:=(congrArg Pk.filters ha).symm;rw[bodyP_9 k9,e1,e2];simp
 rw[if_neg k9]at ha;by_cases k10:p.kind=10
 ·rw[if_pos k10]at ha;have e1:p.wants=[]:=(congrArg Pk.wants ha).symm;have e2:p.codes=[]:=(congrArg Pk.codes ha).symm;rw[bodyP_10 k10,e1,e2];simp
 rw[if_neg k10,if_pos hk]at ha;have e1:p.wants=[]:=(congrArg Pk.wants ha).symm;have e2:p.codes=[]:=(congrArg Pk.codes ha).symm;have e3:p.filters=[]:=(congrArg Pk.filters ha).symm;rw[bodyP_i hk k8 k9 k10,e1,e2,e3];simp
theorem wrap_u8(n:Nat)(h:n<256):IntKind.u8.wrap (n:Int)=n:=by rw[IntKind.wrap_u8];omega
theorem list_none{p:Pk}(h:rightP p)(hk:4<=p.kind/\p.kind<=11):(p.kind≠8->p.wants=[])/\(p.kind≠9->p.codes=[])/\(p.kind≠10->p.filters=[]):=by
 have ha:=h.2;unfold aloneP at ha;rw[if_neg (by omega),if_neg (by omega),if_neg (by omega)]at ha;refine⟨fun k8=>?_,fun k9=>?_,fun k10=>?_⟩
 ·rw[if_neg k8]at ha
  repeat' split at ha
  all_goals exact(congrArg Pk.wants ha).symm
 ·by_cases k8:p.kind=8
  ·rw[if_pos k8]at ha;exact(congrArg Pk.codes ha).symm
  rw[if_neg k8,if_neg k9]at ha
  repeat' split at ha
  all_goals exact(congrArg Pk.codes ha).symm
 by_cases k8:p.kind=8
 ·rw[if_pos k8]at ha;exact(congrArg Pk.filters ha).symm
 by_cases k9:p.kind=9
 ·rw[if_neg k8,if_pos k9]at ha;exact(congrArg Pk.filters ha).symm
 rw[if_neg k8,if_neg k9,if_neg k10]at ha
 repeat' split at ha
 all_goals exact(congrArg Pk.filters ha).symm
structure BytesP (l:List UInt8)(w:World)(e:Ending)(w':World):Prop where
 below:Below w.heap.size w w'
 out:∃v,e=.returned v/\w'.ownsRow w.heap.size 5 1 v l.length (bs l)
theorem own_grown2{w w':World}{base e size n:Nat}{v:Value}{xs:List Value}{r:Option Nat}(h:w.ownsRow base e size v n xs)(hne:∀g,v.ownBlock=some g->r≠some g)(hg:w.grownBy w' r):w'.ownsRow base e size v n xs:=by
 obtain⟨hl,hx | ⟨g,cap,cur,rfl,hb,hh,hx⟩⟩:=h
 ·exact⟨hl,.inl hx⟩
 exact⟨hl,.inr ⟨g,cap,cur,rfl,hb,(hg.block g (Array.getElem?_eq_some_iff.1 hh).1 (fun e=>hne g rfl e.symm)).trans hh,hx⟩⟩
theorem r16_bodyL(p:Pk)(h:H3)(w:World)(hin:p.In w h)(hr:rightP p)(hk:4<=p.kind/\p.kind<=11):Calls prog 87 #[.agg (p.cells h).toArray] w (BytesP (bodyP p) w):=by
 have hT:=hid (listB_is hr hk);have hlen:=bodyP_len hr;rw[<-hT.out]at hlen ⊢;have hid0:=may_id hr hk;obtain⟨idn,hidn⟩:=Int.eq_ofNat_of_zero_le (show 0<=p.id by omega);have hid5:idn<=65535:=by omega
 obtain⟨pc,hpc⟩:=gen_of ((p.cells h).toArray);obtain⟨kd,hkd⟩:=gen_of p.kind;have kc:Hid (∀W,Blk W w.heap.size pc 52->W.cell? ⟨w.heap.size,0,none⟩=some (.int .i64 kd)/\W.cell? ⟨w.heap.size,6,none⟩=some (.int .i64 (idn:Int))/\W.cell? ⟨w.heap.size,21,none⟩=some (.slice h.w.a h.w.n h.w.c)/\W.cell? ⟨w.heap.size,22,none⟩=some (.slice h.c.a h.c.n h.c.c)/\W.cell? ⟨w.heap.size,23,none⟩=some (.slice h.f.a h.f.n h.f.c)):=hid fun W hb=>by
  refine⟨?_,?_,?_,?_,?_⟩<;>rw[hb.cell,<-hpc]
  ·rw[<-hkd];rfl
  ·rw[<-hidn];rfl
  ·rfl
  ·rfl
  rfl
 rw[hpc];have S0:Hid (BoI w pc [] (.slice none 0 0) (w.alloc (.cells pc 52))):=hid (BoI.start bel_refl);have k0:=(kc _ S0.pk).1;have k6:=(kc _ S0.pk).2.1;rw[hkd]at hk;have e1:(kd==1)=false:=by simpa using(show kd≠1 by omega)
 have e2:(kd==2)=false:=by simpa using(show kd≠2 by omega)
 have e3:(kd==3)=false:=by simpa using(show kd≠3 by omega)
 have e12:(kd==12)=false:=by simpa using(show kd≠12 by omega)
 have e13:(kd==13)=false:=by simpa using(show kd≠13 by omega)
 have e14:(kd==14)=false:=by simpa using(show kd≠14 by omega)
 have HI:=hid hin;replace hlen:=hid hlen;have hpre:Hid (listB p=numB 2 idn++(p.wants.flatMap wantB++(p.codes.flatMap (fun c=>numB 1 c.toNat)++p.filters.flatMap txtB))):=hid (by unfold listB;rw[hidn];rfl);have WN:=hid (list_none hr (by rw[hkd];exact hk)).1;have CN:=hid (list_none hr (by rw[hkd];exact hk)).2.1;have FN:=hid (list_none hr (by rw[hkd];exact hk)).2.2;have hwn:h.w.n<=1000:=by
  rw[<-hin.lw.len];by_cases k8:p.kind=8
  ·exact(want_good hr k8).1
  rw[WN k8];simp
 have hcn:h.c.n<=1000:=by
  rw[<-hin.lc.len];by_cases k9:p.kind=9
  ·exact(code_good hr k9).1
  rw[CN k9];simp
 have hfn:h.f.n<=1000:=by
  rw[<-hin.lf.len];by_cases k10:p.kind=10
  ·exact(fil_good hr k10).1
  rw[FN k10];simp
 replace hr:=hid hr;replace hpc:=hid hpc;clear hidn hkd hk hid0 hin;have CT:=hid (r16_two idn (w.alloc (.cells pc 52)) hid5);go_enter func87,ntmps87;go_wp2_with fail
 refine CT.mono ?_;rintro e w1 ⟨v1,rfl,ho1,hb1⟩;obtain⟨a1,c1,rfl⟩:=own_slice ho1;have S1:Hid (BoI w pc (numB 2 idn) (.slice a1 2 c1) w1):=hid ⟨S0.low.trans (hb1.mono (by simp)),by rw[numB_len];exact ownsRow_mono ho1 (by simp)⟩;clear ho1 hb1 k0 k6 S0;go_wp2_with fail;go_loopw [3,5] (fun v i wr=>∃k:Nat,i=.int .i64 k/\k<=h.w.n/\Hid (BoI w pc (numB 2 idn++(p.wants.take k).flatMap wantB) v wr)) (fun _ i _=>h.w.n-(intOf i).toNat)
 case atStart=>exact⟨0,by go_num,Nat.zero_le _,by simpa using S1⟩
 case round=>
  obtain⟨k,rfl,hkn,hS⟩:=hrel;obtain⟨wx,hwx⟩:∃W,W=wr:=⟨_,rfl⟩;subst hwx;have k21:=(kc _ hS.out.pk).2.2.1;have k22:=(kc _ hS.out.pk).2.2.2.1;have k23:=(kc _ hS.out.pk).2.2.2.2;clear S1;rcases Nat.lt_or_ge k h.w.n with hlt | hge
  ·obtain⟨x,hx⟩:∃x,p.wants[k]?=some x:=⟨_,List.getElem?_eq_getElem (by rw[HI.lw.len];exact hlt)⟩;obtain⟨g,off,ha,hrg⟩:=HI.lw.range hx;have hgood:=(want_good hr.out (by apply Classical.byContradiction;intro k8;have:=congrArg List.length (WN k8);rw[HI.lw.len]at this;simp at this;omega)).2 x (List.mem_of_getElem? hx)
   obtain⟨qn,hqn⟩:=Int.eq_ofNat_of_zero_le hgood.2.1;have hq5:qn<256:=by omega
   have hwq:IntKind.u8.wrap (qn:Int)=(qn:Int):=wrap_u8 qn hq5;have hfl:=hid hgood.1;have hsucc:=hid (flat_take_succ wantB p.wants k hx);have hlim:Hid ((numB 2 idn++(p.wants.take (k+1)).flatMap wantB).length<=5000):=hid (by have h1:=hlen.out;rw[hpre]at h1;have h2:=flat_take_len wantB p.wants (k+1);simp only[List.length_append]at h1 ⊢;omega)
   obtain⟨L,hL⟩:=gen_of (numB 2 idn++(p.wants.take k).flatMap wantB);have hnext:Hid (numB 2 idn++(p.wants.take (k+1)).flatMap wantB=L++(txtB x.filter++[UInt8.ofNat qn])):=hid (by rw[hsucc.out,<-hL,List.append_assoc];congr 2;unfold wantB;rw[hqn];simp[numB,Nat.mod_eq_of_lt hq5])
   have hL5:Hid (L.length+(txtB x.filter).length+1<=5000):=hid (by have:=hlim.out;rw[hnext]at this;simp only[List.length_append,List.length_singleton]at this;omega)
   have hcl:x.cl=[.string ⟨x.filter.toArray⟩,.int .i64 (qn:Int)]:=by unfold WantV.cl;rw[hqn]
   rw[hL]at hS;obtain⟨LL,hLL⟩:=gen_of L.length;obtain⟨TT,hTT⟩:=gen_of ((txtB x.filter).length);have hso:=hS.out.own;rw[hLL]at hso;obtain⟨av,cv,rfl⟩:=own_slice hso;clear hso;have SD:=hid (hS.out.step bel_refl.drew);have hrd:=hrg _ SD.below;rw[hcl]at hrd;rw[hLL]at hL5;rw[hTT]at hL5;rw[hcl]at hrg;have ha:=hid ha;replace hL:=hid hL;replace hx:=hid hx;replace hgood:=hid hgood;replace hqn:=hid hqn;replace hcl:=hid hcl;clear hlim hsucc hS;go_wp2_with fail;refine regionQ [(1000,fun w'=>Blk w' w.heap.size pc 52),(1000,fun w'=>w'.rangeAt g (off+k*2) [.string ⟨x.filter.toArray⟩,.int .i64 (qn:Int)])] (by kernel_rfl) ⟨SD.pk,hrd,trivial⟩ fun KQ hKQ=>?_;try simp only[PT]
   obtain⟨WD,hWD⟩:=gen_of wx.drew;rw[hWD]at SD hrd ⊢;refine tQ [0,1] ?_;refine loadQ 2 rfl (by kernel_rfl) (by kernel_rfl) rfl rfl 0 rfl (by kernel_rfl) (.slice (some ⟨g,off,none⟩) h.w.n h.w.c) (fun w' hf=>by(have k0:=(kc _ hf).2.2.1;rw[ha.out]at k0;go_simp<;>with_reducible rfl)) ?_;simp only[PT];refine tQ [3,4,5] ?_;refine loadQ 6 rfl (by kernel_rfl) (by kernel_rfl) rfl rfl 1 rfl (by kernel_rfl) (.string ⟨x.filter.toArray⟩) (fun w' hf=>by(have k0:w'.cell? ⟨g,off+k*2,none⟩=some (.string ⟨x.filter.toArray⟩):=(by simpa using hf 0 _ rfl);go_simp<;>with_reducible rfl)) ?_;simp only[PT];refine tQ [9] ?_;refine loadQ 10 rfl (by kernel_rfl) (by kernel_rfl) rfl rfl 0 rfl (by kernel_rfl) (.slice (some ⟨g,off,none⟩) h.w.n h.w.c) (fun w' hf=>by(have k0:=(kc _ hf).2.2.1;rw[ha.out]at k0;go_simp<;>with_reducible rfl)) ?_;simp only[PT];refine tQ [11,12,13] ?_;refine loadQ 14 rfl (by kernel_rfl) (by kernel_rfl) rfl rfl 1 rfl (by kernel_rfl) (.int .i64 (qn:Int)) (fun w' hf=>by(have k0:=hf 1 _ rfl;go_simp<;>with_reducible rfl)) ?_;simp only[PT];refine tQ [15] ?_;have hsz:=SD.size;have HRD:=hid (fun W (hb:Below w.heap.size w W)=>hrg W hb);refine stepM [7,16] (fun j hj=>?_);have hj:j=7\/j=16:=by simpa using hj
   rcases hj with rfl | rfl
   ·refine⟨⟨_,rfl,by kernel_rfl,fun K hK=>?_⟩⟩;go_simp;refine(r16_text x.filter WD hfl.out).mono ?_;rintro e w2 ⟨u,rfl,hu,hb2⟩;have S2:=hid (SD.step hb2);rw[hTT]at hu;obtain⟨au,cu,rfl⟩:=own_slice hu;refine hK _ _ ⟨⟨fun _=>S2.pk,fun _=>HRD.out _ S2.below,trivial⟩,?_⟩;clear hK K;try simp only[PT]
    refine stepM [8,16] (fun j hj=>?_);have hj:j=8\/j=16:=by simpa using hj
    rcases hj with rfl | rfl
    ·refine⟨⟨_,rfl,by kernel_rfl,fun K hK=>?_⟩⟩;refine wp_append_rows _ _ rfl Tryz.eB8 (by decide) (w.heap.size+1) _ LL _ rfl (by have h9:=S2.own;rw[hLL]at h9;exact h9) WD.heap.size _ TT _ rfl hu (bs_one _) (by have:=hL5.out;omega) (by have:=hL5.out;omega) S2.size fun v3 w3 ho3 hg3 hn3=>?_;have S3:Hid (BoI w pc (L++txtB x.filter) v3 w3):=hid (S2.app (by rw[hLL,hTT];exact ho3) hg3);refine hK _ _ ⟨⟨fun _=>S3.pk,fun _=>HRD.out _ S3.below,trivial⟩,?_⟩;clear hK K;try simp only[PT]
     have SN:=hid (S3.step ((Below.refl w3.heap.size w3).alloc nat_le_rfl (.cells #[.int .u8 (qn:Int)] 5)));refine sQ 16 fun K hK=>?_;simp only[GO];go_simp;refine hK _ _ ⟨⟨fun _=>SN.pk,fun _=>HRD.out _ SN.below,trivial⟩,?_⟩;clear hK K;try simp only[PT]
     refine sQ 17 fun K hK=>?_;simp only[GO];refine wp_append_rows _ _ rfl Tryz.eB8 (by decide) (w.heap.size+1) _ (LL+TT) _ rfl (by have h9:=SN.own;rw[List.length_append,hLL,hTT]at h9;exact h9) w3.heap.size _ 1 _ rfl (lit1 (qn:Int) w3) (by intro u hu;simp at hu;subst hu;rfl) (by have:=hL5.out;omega) (by have:=hL5.out;omega) SN.size fun v4 w4 ho4 hg4 hn4=>?_;have S4:Hid (BoI w pc (L++txtB x.filter++[UInt8.ofNat qn]) v4 w4):=hid (SN.app (by rw[List.length_append,hLL,hTT,List.length_singleton,show bs [UInt8.ofNat qn]=[.int .u8 (qn:Int)]from by unfold bs;simp only[List.map_cons,List.map_nil];rw[u8_of qn hq5]];exact ho4) hg4);refine hK _ _ ⟨⟨fun _=>S4.pk,fun _=>HRD.out _ S4.below,trivial⟩,?_⟩;clear hK K;try simp only[PT]
     refine tQ [18] ?_;refine dQ (hKQ.out _ _ ?_);clear hKQ KQ;replace S4:Hid (BoI w pc (numB 2 idn++(p.wants.take (k+1)).flatMap wantB) v4 w4):=hid (by rw[hnext,<-List.append_assoc];exact S4.out);go_wp2_with fail
     refine⟨⟨k+1,by go_num,by omega,S4⟩,by simp[intOf];omega⟩
    refine⟨⟨_,rfl,by kernel_rfl,fun K hK=>?_⟩⟩;have bal:=(Below.refl w2.heap.size w2).alloc nat_le_rfl (.cells #[.int .u8 (qn:Int)] 5);have SN:=hid (S2.step bal);have hu2:=ownsRow_below hu bal;have hlit:=lit1 (qn:Int) w2;go_simp;refine hK _ _ ⟨⟨fun _=>SN.pk,fun _=>HRD.out _ SN.below,trivial⟩,?_⟩;clear hK K;try simp only[PT]
    refine sQ 8 fun K hK=>?_;simp only[GO];refine wp_append_rows _ _ rfl Tryz.eB8 (by decide) (w.heap.size+1) _ LL _ rfl (by have h9:=SN.own;rw[hLL]at h9;exact h9) WD.heap.size _ TT _ rfl hu2 (bs_one _) (by have:=hL5.out;omega) (by have:=hL5.out;omega) SN.size fun v3 w3 ho3 hg3 hn3=>?_;have S3:Hid (BoI w pc (L++txtB x.filter) v3 w3):=hid (SN.app (by rw[hLL,hTT];exact ho3) hg3);have hlit2:=own_grown2 hlit (fun g hg e=>by have h1:=(S2.own.lt g e).2;have h2:w2.heap.size=g:=Option.some.inj hg;omega) hg3;refine hK _ _ ⟨⟨fun _=>S3.pk,fun _=>HRD.out _ S3.below,trivial⟩,?_⟩;clear hK K;try simp only[PT]
    refine sQ 17 fun K hK=>?_;simp only[GO];refine wp_append_rows _ _ rfl Tryz.eB8 (by decide) (w.heap.size+1) _ (LL+TT) _ rfl (by have h9:=S3.own;rw[List.length_append,hLL,hTT]at h9;exact h9) w2.heap.size _ 1 _ rfl hlit2 (by intro u hu;simp at hu;subst hu;rfl) (by have:=hL5.out;omega) (by have:=hL5.out;omega) S3.size fun v4 w4 ho4 hg4 hn4=>?_;have S4:Hid (BoI w pc (L++txtB x.filter++[UInt8.ofNat qn]) v4 w4):=hid (S3.app (by rw[List.length_append,hLL,hTT,List.length_singleton,show bs [UInt8.ofNat qn]=[.int .u8 (qn:Int)]from by unfold bs;simp only[List.map_cons,List.map_nil];rw[u8_of qn hq5]];exact ho4) hg4);refine hK _ _ ⟨⟨fun _=>S4.pk,fun _=>HRD.out _ S4.below,trivial⟩,?_⟩;clear hK K;try simp only[PT]
    refine tQ [18] ?_;refine dQ (hKQ.out _ _ ?_);clear hKQ KQ;replace S4:Hid (BoI w pc (numB 2 idn++(p.wants.take (k+1)).flatMap wantB) v4 w4):=hid (by rw[hnext,<-List.append_assoc];exact S4.out);go_wp2_with fail
    refine⟨⟨k+1,by go_num,by omega,S4⟩,by simp[intOf];omega⟩
   refine⟨⟨_,rfl,by kernel_rfl,fun K hK=>?_⟩⟩;have bal:=(Below.refl WD.heap.size WD).alloc nat_le_rfl (.cells #[.int .u8 (qn:Int)] 5);have SN:=hid (SD.step bal);have hlit:=lit1 (qn:Int) WD;go_simp;refine hK _ _ ⟨⟨fun _=>SN.pk,fun _=>HRD.out _ SN.below,trivial⟩,?_⟩;clear hK K;try simp only[PT]
   obtain⟨WE,hWE⟩:=gen_of (WD.alloc (.cells #[.int .u8 (qn:Int)] 5));rw[hWE]at hlit SN ⊢;refine sQ 7 fun K hK=>?_;simp only[GO];go_simp;refine(r16_text x.filter WE hfl.out).mono ?_;rintro e w2 ⟨u,rfl,hu,hb2⟩;have S2:=hid (SN.step hb2);have hlit2:=ownsRow_below hlit hb2;rw[hTT]at hu;obtain⟨au,cu,rfl⟩:=own_slice hu;refine hK _ _ ⟨⟨fun _=>S2.pk,fun _=>HRD.out _ S2.below,trivial⟩,?_⟩;clear hK K;try simp only[PT]
   refine sQ 8 fun K hK=>?_;simp only[GO];refine wp_append_rows _ _ rfl Tryz.eB8 (by decide) (w.heap.size+1) _ LL _ rfl (by have h9:=S2.own;rw[hLL]at h9;exact h9) WE.heap.size _ TT _ rfl hu (bs_one _) (by have:=hL5.out;omega) (by have:=hL5.out;omega) S2.size fun v3 w3 ho3 hg3 hn3=>?_;have S3:Hid (BoI w pc (L++txtB x.filter) v3 w3):=hid (S2.app (by rw[hLL,hTT];exact ho3) hg3);have hlit3:=own_grown2 hlit2 (fun g hg e=>by have h1:=(SD.own.lt g e).2;have h2:WD.heap.size=g:=Option.some.inj hg;omega) hg3;refine hK _ _ ⟨⟨fun _=>S3.pk,fun _=>HRD.out _ S3.below,trivial⟩,?_⟩;clear hK K;try simp only[PT]
   refine sQ 17 fun K hK=>?_;simp only[GO];refine wp_append_rows _ _ rfl Tryz.eB8 (by decide) (w.heap.size+1) _ (LL+TT) _ rfl (by have h9:=S3.own;rw[List.length_append,hLL,hTT]at h9;exact h9) WD.heap.size _ 1 _ rfl hlit3 (by intro u hu;simp at hu;subst hu;rfl) (by have:=hL5.out;omega) (by have:=hL5.out;omega) S3.size fun v4 w4 ho4 hg4 hn4=>?_;have S4:Hid (BoI w pc (L++txtB x.filter++[UInt8.ofNat qn]) v4 w4):=hid (S3.app (by rw[List.length_append,hLL,hTT,List.length_singleton,show bs [UInt8.ofNat qn]=[.int .u8 (qn:Int)]from by unfold bs;simp only[List.map_cons,List.map_nil];rw[u8_of qn hq5]];exact ho4) hg4);refine hK _ _ ⟨⟨fun _=>S4.pk,fun _=>HRD.out _ S4.below,trivial⟩,?_⟩;clear hK K;try simp only[PT]
   refine tQ [18] ?_;refine dQ (hKQ.out _ _ ?_);clear hKQ KQ;replace S4:Hid (BoI w pc (numB 2 idn++(p.wants.take (k+1)).flatMap wantB) v4 w4):=hid (by rw[hnext,<-List.append_assoc];exact S4.out);go_wp2_with fail
   refine⟨⟨k+1,by go_num,by omega,S4⟩,by simp[intOf];omega⟩
  obtain rfl:k=h.w.n:=by omega
  have hwall:p.wants.take h.w.n=p.wants:=List.take_of_length_le (by rw[HI.lw.len];exact Nat.le_refl _);rw[hwall]at hS;obtain⟨L,hL⟩:=gen_of (numB 2 idn++p.wants.flatMap wantB);rw[hL]at hS;have hL:=hid hL;clear hwall hge hkn;go_wp2_with fail;go_loopw [3,6] (fun v i wr=>∃k:Nat,i=.int .i64 k/\k<=h.c.n/\Hid (BoI w pc (L++(p.codes.take k).flatMap (fun c=>numB 1 c.toNat)) v wr)) (fun _ i _=>h.c.n-(intOf i).toNat)
  case atStart=>exact⟨0,by go_num,Nat.zero_le _,by simpa using hS⟩
  case round=>
   obtain⟨k,rfl,hkn,hS2⟩:=hrel;obtain⟨wy,hwy⟩:∃W,W=wr:=⟨_,rfl⟩;subst hwy;have k22:=(kc _ hS2.out.pk).2.2.2.1;clear hS k21 k23;rcases Nat.lt_or_ge k h.c.n with hlt | hge
   ·obtain⟨x,hx⟩:∃x,p.codes[k]?=some x:=⟨_,List.getElem?_eq_getElem (by rw[HI.lc.len];exact hlt)⟩;obtain⟨g,off,ha,hrg⟩:=HI.lc.range hx;have hgood:=(code_good hr.out (by apply Classical.byContradiction;intro k9;have:=congrArg List.length (CN k9);rw[HI.lc.len]at this;simp at this;omega)).2 x (List.mem_of_getElem? hx)
    obtain⟨zn,hzn⟩:=Int.eq_ofNat_of_zero_le hgood.1;have hz5:zn<256:=by omega
    have hwq:IntKind.u8.wrap (zn:Int)=(zn:Int):=wrap_u8 zn hz5;have hsucc:=flat_take_succ (fun c:Int=>numB 1 c.toNat) p.codes k hx;have hlim:(L++(p.codes.take (k+1)).flatMap (fun c=>numB 1 c.toNat)).length<=5000:=by have h1:=hlen.out;rw[hpre,<-List.append_assoc,hL.out]at h1;have h2:=flat_take_len (fun c:Int=>numB 1 c.toNat) p.codes (k+1);simp only[List.length_append]at h1 ⊢;omega
    obtain⟨L2,hL2⟩:=gen_of (L++(p.codes.take k).flatMap (fun c:Int=>numB 1 c.toNat));have hnext:Hid (L++(p.codes.take (k+1)).flatMap (fun c=>numB 1 c.toNat)=L2++[UInt8.ofNat zn]):=hid (by rw[hsucc,<-hL2,List.append_assoc,hzn];simp[numB,Nat.mod_eq_of_lt hz5])
    rw[hnext,List.length_append,List.length_singleton]at hlim;rw[hL2]at hS2;obtain⟨LL,hLL⟩:=gen_of L2.length;rw[hLL]at hlim;have kx:wy.cell? ⟨g,off+k,none⟩=some (.int .i64 (zn:Int)):=by have:=hrg wy hS2.out.below 0 (.int .i64 x) rfl;rw[hzn]at this;simpa using this
    rw[ha]at k22;have hso:=hS2.out.own;rw[hLL]at hso;have hss:=hS2.out.size;obtain⟨av,cv,rfl⟩:=own_slice hso;replace hL2:=hid hL2;replace hx:=hid hx;replace hgood:=hid hgood;replace hzn:=hid hzn;have hLL:=hid hLL;clear hsucc hrg ha;go_wp2_with (at_builtin;refine append_one rfl _ _ rfl Tryz.eB8 (w.heap.size+1) _ _ _ rfl hso (.int .u8 (zn:Int)) rfl rfl (by omega) (by omega) (by omega) ?_;intro v4 w4 ho4 hg4);have S4:Hid (BoI w pc (L++(p.codes.take (k+1)).flatMap (fun c=>numB 1 c.toNat)) v4 w4):=hid (by rw[hnext];exact hS2.out.app (by rw[hLL.out,List.length_singleton,show bs [UInt8.ofNat zn]=[.int .u8 (zn:Int)]from by unfold bs;simp only[List.map_cons,List.map_nil];rw[u8_of zn hz5]];exact ho4) hg4)
    refine⟨⟨k+1,by go_num,by omega,S4⟩,by simp[intOf];omega⟩
   obtain rfl:k=h.c.n:=by omega
   have hcall:p.codes.take h.c.n=p.codes:=List.take_of_length_le (by rw[HI.lc.len];exact Nat.le_refl _);rw[hcall]at hS2;obtain⟨L2,hL2⟩:=gen_of (L++p.codes.flatMap (fun c:Int=>numB 1 c.toNat));rw[hL2]at hS2;have hL2:=hid hL2;clear hcall hge hkn;go_wp2_with fail;go_loopw [3,7] (fun v i wr=>∃k:Nat,i=.int .i64 k/\k<=h.f.n/\Hid (BoI w pc (L2++(p.filters.take k).flatMap txtB) v wr)) (fun _ i _=>h.f.n-(intOf i).toNat)
   case atStart=>exact⟨0,by go_num,Nat.zero_le _,by simpa using hS2⟩
   case round=>
    obtain⟨k,rfl,hkn,hS3⟩:=hrel;obtain⟨wz,hwz⟩:∃W,W=wr:=⟨_,rfl⟩;subst hwz;have k23:=(kc _ hS3.out.pk).2.2.2.2;clear hS2 k22;rcases Nat.lt_or_ge k h.f.n with hlt | hge
    ·obtain⟨x,hx⟩:∃x,p.filters[k]?=some x:=⟨_,List.getElem?_eq_getElem (by rw[HI.lf.len];exact hlt)⟩;obtain⟨g,off,ha,hrg⟩:=HI.lf.range hx;have hgood:=hid ((fil_good hr.out (by apply Classical.byContradiction;intro k10;have:=congrArg List.length (FN k10);rw[HI.lf.len]at this;simp at this;omega)).2 x (List.mem_of_getElem? hx))
     have hsucc:=flat_take_succ txtB p.filters k hx;have hlim:(L2++(p.filters.take (k+1)).flatMap txtB).length<=5000:=by have h1:=hlen.out;rw[hpre,<-List.append_assoc,hL.out,<-List.append_assoc,hL2.out]at h1;have h2:=flat_take_len txtB p.filters (k+1);simp only[List.length_append]at h1 ⊢;omega
     obtain⟨L3,hL3⟩:=gen_of (L2++(p.filters.take k).flatMap txtB);have hnext:Hid (L2++(p.filters.take (k+1)).flatMap txtB=L3++txtB x):=hid (by rw[hsucc,<-hL3,List.append_assoc]);rw[hnext,List.length_append]at hlim;rw[hL3]at hS3;obtain⟨LL,hLL⟩:=gen_of L3.length;obtain⟨TT,hTT⟩:=gen_of ((txtB x).length);rw[hLL,hTT]at hlim;have kx:wz.cell? ⟨g,off+k,none⟩=some (.string ⟨x.toArray⟩):=by have:=hrg wz hS3.out.below 0 (.string ⟨x.toArray⟩) rfl;simpa using this
     rw[ha]at k23;have hso:=hS3.out.own;rw[hLL]at hso;obtain⟨av,cv,rfl⟩:=own_slice hso;have CX:=hid (r16_text x wz hgood.out);replace hL3:=hid hL3;replace hx:=hid hx;replace hLL:=hid hLL;clear hsucc hrg ha hso;go_wp2_with fail;refine CX.mono ?_;rintro e w5 ⟨u,rfl,hu,hb5⟩;have S5:=hid (hS3.out.step hb5);rw[hTT]at hu;obtain⟨au,cu,rfl⟩:=own_slice hu;have hso:=S5.own;rw[hLL.out]at hso;have hss:=S5.size;replace hTT:=hid hTT;clear hb5 hS3 kx k23;go_wp2_with (at_builtin;refine wpList_plain rfl fun _ hK=>wp_append_rows _ _ rfl Tryz.eB8 (by decide) (w.heap.size+1) _ LL _ rfl hso wz.heap.size _ TT _ rfl hu (bs_one _) (by omega) (by omega) hss fun v6 w6 ho6 hg6 hn6=>hK _ _ ?_);have S6:Hid (BoI w pc (L2++(p.filters.take (k+1)).flatMap txtB) v6 w6):=hid (by rw[hnext];exact S5.app (by rw[hLL.out,hTT.out];exact ho6) hg6)
     refine⟨⟨k+1,by go_num,by omega,S6⟩,by simp[intOf];omega⟩
    obtain rfl:k=h.f.n:=by omega
    have hfall:p.filters.take h.f.n=p.filters:=List.take_of_length_le (by rw[HI.lf.len];exact Nat.le_refl _);rw[hfall]at hS3;have hfin:L2++p.filters.flatMap txtB=listB p:=by rw[hpre,<-List.append_assoc,hL.out,<-List.append_assoc,hL2.out]
    rw[hfin]at hS3;clear hfall hge hkn hfin;go_wp2_with fail;go_ret;exact⟨hS3.out.below,_,rfl,ownsRow_mono (base':=w.heap.size) hS3.out.own (by omega)⟩
end
section
attribute [local go_sem] Oper.semAt_some
theorem r16_body_12(p:Pk)(h:H3)(w:World)(hk:p.kind=12)(hr:rightP p):Calls prog 87 #[.agg (p.cells h).toArray] w (BytesP (bodyP p) w):=by
 have e0:bodyP p=[]:=bodyP_0 (by omega) (by omega) (by omega) (by omega) (by omega) (by omega) (by omega);rw[e0];obtain⟨pc,hpc⟩:=gen_of ((p.cells h).toArray);have kc:Hid (∀W,Blk W w.heap.size pc 52->∀i,W.cell? ⟨w.heap.size,i,none⟩=(p.cells h)[i]?):=hid fun W hb i=>by rw[hb.cell,<-hpc];simp
 have S0:Hid (BoI w pc [] (.slice none 0 0) (w.alloc (.cells pc 52))):=hid (BoI.start bel_refl);rw[hpc];replace hpc:=hid hpc;have k0:(w.alloc (.cells pc 52)).cell? ⟨w.heap.size,0,none⟩=some (.int .i64 12):=by rw[<-hk];exact kc _ S0.pk 0
 go_enter func87,ntmps87;go_wp2_with fail
 go_ret;exact⟨S0.below,_,rfl,World.ownsRow_nil _ _ _ _⟩
theorem r16_body_13(p:Pk)(h:H3)(w:World)(hk:p.kind=13)(hr:rightP p):Calls prog 87 #[.agg (p.cells h).toArray] w (BytesP (bodyP p) w):=by
 have e0:bodyP p=[]:=bodyP_0 (by omega) (by omega) (by omega) (by omega) (by omega) (by omega) (by omega);rw[e0];obtain⟨pc,hpc⟩:=gen_of ((p.cells h).toArray);have kc:Hid (∀W,Blk W w.heap.size pc 52->∀i,W.cell? ⟨w.heap.size,i,none⟩=(p.cells h)[i]?):=hid fun W hb i=>by rw[hb.cell,<-hpc];simp
 have S0:Hid (BoI w pc [] (.slice none 0 0) (w.alloc (.cells pc 52))):=hid (BoI.start bel_refl);rw[hpc];replace hpc:=hid hpc;have k0:(w.alloc (.cells pc 52)).cell? ⟨w.heap.size,0,none⟩=some (.int .i64 13):=by rw[<-hk];exact kc _ S0.pk 0
 go_enter func87,ntmps87;go_wp2_with fail
 go_ret;exact⟨S0.below,_,rfl,World.ownsRow_nil _ _ _ _⟩
theorem r16_body_14(p:Pk)(h:H3)(w:World)(hk:p.kind=14)(hr:rightP p):Calls prog 87 #[.agg (p.cells h).toArray] w (BytesP (bodyP p) w):=by
 have e0:bodyP p=[]:=bodyP_0 (by omega) (by omega) (by omega) (by omega) (by omega) (by omega) (by omega);rw[e0];obtain⟨pc,hpc⟩:=gen_of ((p.cells h).toArray);have kc:Hid (∀W,Blk W w.heap.size pc 52->∀i,W.cell? ⟨w.heap.size,i,none⟩=(p.cells h)[i]?):=hid fun W hb i=>by rw[hb.cell,<-hpc];simp
 have S0:Hid (BoI w pc [] (.slice none 0 0) (w.alloc (.cells pc 52))):=hid (BoI.start bel_refl);rw[hpc];replace hpc:=hid hpc;have k0:(w.alloc (.cells pc 52)).cell? ⟨w.heap.size,0,none⟩=some (.int .i64 14):=by rw[<-hk];exact kc _ S0.pk 0
 go_enter func87,ntmps87;go_wp2_with fail
 go_ret;exact⟨S0.below,_,rfl,World.ownsRow_nil _ _ _ _⟩
theorem r16_body_2(p:Pk)(h:H3)(w:World)(hk:p.kind=2)(hr:rightP p):Calls prog 87 #[.agg (p.cells h).toArray] w (BytesP (bodyP p) w):=by
 have hm:=hr.1;rw[show mayP p=mayA p from by unfold mayP;rw[if_neg (by omega),if_pos hk]]at hm;have hcd:0<=p.code/\p.code<=5:=by unfold mayA at hm;rw[Bool.and_eq_true]at hm;exact within_iff.1 hm.1
 obtain⟨cn,hcn⟩:=Int.eq_ofNat_of_zero_le hcd.1;have hc5:cn<=5:=by omega
 obtain⟨pr,hpr⟩:=gen_of p.present;have e0:Hid (bodyP p=[UInt8.ofNat (bitN pr 1),UInt8.ofNat cn]):=hid (by
  rw[bodyP_2 hk,hpr,hcn];have h1:bitN pr 1<256:=by cases pr<;>decide
  rw[numB_1 _ h1,numB_1 _ (by omega)];rfl)
 rw[e0];have hwq:IntKind.u8.wrap (cn:Int)=(cn:Int):=wrap_u8 cn (by omega);obtain⟨pc,hpc⟩:=gen_of ((p.cells h).toArray);have kc:Hid (∀W,Blk W w.heap.size pc 52->∀i,W.cell? ⟨w.heap.size,i,none⟩=(p.cells h)[i]?):=hid fun W hb i=>by rw[hb.cell,<-hpc];simp
 have S0:Hid (BoI w pc [] (.slice none 0 0) (w.alloc (.cells pc 52))):=hid (BoI.start bel_refl);rw[hpc];replace hpc:=hid hpc;have k0:(w.alloc (.cells pc 52)).cell? ⟨w.heap.size,0,none⟩=some (.int .i64 2):=by rw[<-hk];exact kc _ S0.pk 0
 have kq:Hid (∀W,Blk W w.heap.size pc 52->W.cell? ⟨w.heap.size,19,none⟩=some (.bool pr)/\W.cell? ⟨w.heap.size,20,none⟩=some (.int .i64 (cn:Int))):=hid fun W hb=>⟨by rw[<-hpr];exact kc _ hb 19,by rw[<-hcn];exact kc _ hb 20⟩;clear hcn hpr hcd hm hr;go_enter func87,ntmps87;go_upto_region 15 with fail
 try simp only[PT]
 have SD:=S0.step bel_refl.drew;refine regionQ [(1000,fun w'=>Blk w' w.heap.size pc 52)] (by kernel_rfl) ⟨SD.pk,trivial⟩ fun KQ hKQ=>?_;try simp only[PT]
 obtain⟨WD,hWD⟩:=gen_of ((w.alloc (.cells pc 52)).drew);rw[hWD]at SD ⊢;refine tQ [0] ?_;refine loadQ 1 rfl (by kernel_rfl) (by kernel_rfl) rfl rfl 0 rfl (by kernel_rfl) (.bool pr) (fun w' hf=>by(have k0:=(kq _ hf).1;go_simp<;>with_reducible rfl)) ?_;simp only[PT];refine tQ [4] ?_;refine loadQ 5 rfl (by kernel_rfl) (by kernel_rfl) rfl rfl 0 rfl (by kernel_rfl) (.int .i64 (cn:Int)) (fun w' hf=>by(have k0:=(kq _ hf).2;go_simp<;>with_reducible rfl)) ?_;simp only[PT];refine tQ [6] ?_;refine sQ 2 fun K hK=>?_;simp only[GO];go_simp;refine(r16_one pr 1 WD).mono ?_;rintro e w1 ⟨rfl,rfl⟩;refine hK _ _ ⟨⟨fun _=>SD.pk,trivial⟩,?_⟩;clear hK K;try simp only[PT]
 have hlit:=lit2 ((bitN pr 1:Nat):Int) (cn:Int) WD;have S9:=hid (SD.step (bel_refl.alloc nat_le_rfl (.cells #[.int .u8 ((bitN pr 1:Nat):Int),.int .u8 (cn:Int)] 5)));have hcells:Hid (bs [UInt8.ofNat (bitN pr 1),UInt8.ofNat cn]=[.int .u8 ((bitN pr 1:Nat):Int),.int .u8 (cn:Int)]):=hid (by unfold bs;simp only[List.map_cons,List.map_nil];rw[u8_of cn (by omega),u8_of _ (by cases pr<;>decide)])
 cases pr<;>
 ·refine tQ [3] ?_;refine sQ 7 fun K hK=>?_;simp only[GO];go_simp;refine hK _ _ ⟨⟨fun _=>S9.pk,trivial⟩,?_⟩;clear hK K;try simp only[PT]
  refine tQ [8] ?_;refine dQ (hKQ.out _ _ ?_);clear hKQ KQ;go_wp2_with fail;go_ret;refine⟨S9.below,_,rfl,?_⟩;rw[hcells];exact ownsRow_mono hlit (by have:=SD.size;omega)
theorem r16_body_3(p:Pk)(h:H3)(w:World)(hk:p.kind=3)(hr:rightP p):Calls prog 87 #[.agg (p.cells h).toArray] w (BytesP (bodyP p) w):=by
 have hlen:=bodyP_len hr;have hm:=hr.1;rw[show mayP p=mayPub p from by unfold mayP;rw[if_neg (by omega),if_neg (by omega),if_pos hk]]at hm;unfold mayPub at hm;rw[Bool.and_eq_true,Bool.and_eq_true,Bool.and_eq_true]at hm;have hq:=within_iff.1 hm.1.2;have htl:=nameR_len hm.1.1.1;have hidr:0<=p.id/\p.id<=65535:=by
  have h9:=hm.2;rw[Bool.or_eq_true]at h9;rcases h9 with h9 | h9
  ·rw[Bool.and_eq_true,Bool.and_eq_true]at h9;have:=of_decide_eq_true h9.1.2;omega
  rw[Bool.and_eq_true]at h9;have:=within_iff.1 h9.2;omega
 obtain⟨qn,hqn⟩:=Int.eq_ofNat_of_zero_le hq.1;obtain⟨idn,hidn⟩:=Int.eq_ofNat_of_zero_le hidr.1;have hid5:idn<=65535:=by omega
 have e0:bodyP p=txtB p.topic++((if 0<qn then numB 2 idn else[])++p.body):=by
  rw[bodyP_3 hk,hqn,hidn];congr 2;by_cases h9:0<qn
  ·rw[if_pos (by omega),if_pos h9];rfl
  rw[if_neg (by omega),if_neg h9]
 rw[e0]at hlen ⊢;obtain⟨pc,hpc⟩:=gen_of ((p.cells h).toArray);have kc:Hid (∀W,Blk W w.heap.size pc 52->∀i,W.cell? ⟨w.heap.size,i,none⟩=(p.cells h)[i]?):=hid fun W hb i=>by rw[hb.cell,<-hpc];simp
 have S0:Hid (BoI w pc [] (.slice none 0 0) (w.alloc (.cells pc 52))):=hid (BoI.start bel_refl);rw[hpc];replace hpc:=hid hpc;have k0:(w.alloc (.cells pc 52)).cell? ⟨w.heap.size,0,none⟩=some (.int .i64 3):=by rw[<-hk];exact kc _ S0.pk 0
 have k4:(w.alloc (.cells pc 52)).cell? ⟨w.heap.size,4,none⟩=some (.string ⟨p.topic.toArray⟩):=kc _ S0.pk 4;have kq:Hid (∀W,Blk W w.heap.size pc 52->W.cell? ⟨w.heap.size,3,none⟩=some (.int .i64 (qn:Int))/\W.cell? ⟨w.heap.size,6,none⟩=some (.int .i64 (idn:Int))):=hid fun W hb=>⟨by rw[<-hqn];exact kc _ hb 3,by rw[<-hidn];exact kc _ hb 6⟩;have CT:=hid (r16_text p.topic (w.alloc (.cells pc 52)) (by omega));obtain⟨sb,hsb⟩:=gen_of ((⟨p.body.toArray⟩:ByteArray):ByteArray);have hsz:sb.size=p.body.length:=by rw[<-hsb];simp[ByteArray.size]
 have hsc:Hid (Go.Lib.strCells sb=bs p.body):=hid (by rw[<-hsb];exact strCells_bs _);have kb:Hid (∀W,Blk W w.heap.size pc 52->W.cell? ⟨w.heap.size,5,none⟩=some (.string sb)):=hid fun W hb=>by rw[<-hsb];exact kc _ hb 5
 have htt:(txtB p.topic).length<=300:=by rw[txtB_len];omega
 have hlb:p.body.length<=5000:=by simp only[List.length_append]at hlen;omega
 obtain⟨T0,hT0⟩:=gen_of (txtB p.topic);rw[hT0]at CT hlen htt ⊢;obtain⟨Q0,hQ0⟩:=gen_of (if 0<qn then numB 2 idn else[]);rw[hQ0,<-List.append_assoc]at hlen ⊢;have hQ0:=hid hQ0;obtain⟨L,hL⟩:=gen_of (T0++Q0);rw[hL]at hlen ⊢;have hL:=hid hL;clear hsb hqn hidn hidr hq hm htl hr e0 hT0;obtain⟨i0,hi,hz0,hz1,hz2⟩:=info_parts Tryz.infoB;go_enter func87,ntmps87;go_wp2_with fail
 refine CT.mono ?_;rintro e w1 ⟨v1,rfl,ho1,hb1⟩;obtain⟨a1,c1,rfl⟩:=own_slice ho1;have S1:Hid (BoI w pc T0 (.slice a1 T0.length c1) w1):=hid ⟨S0.low.trans (hb1.mono (by simp)),ownsRow_mono ho1 (by simp)⟩;have k3:=(kq _ S1.pk).1;have k6:=(kq _ S1.pk).2;clear ho1 hb1 k0 k4 S0;obtain⟨TT,hTT⟩:=gen_of T0.length;rw[hTT]at S1 htt ⊢;have hTT:=hid hTT;go_upto_if 96 with fail;try simp only[PT]
 go_cut [3]from 96 (fun s3 wx=>Hid (BoI w pc L s3 wx))
 case first=>
  by_cases hq:0<qn
  ·have d:decide (0<(qn:Int))=true:=decide_eq_true (by omega);have CW:=hid (r16_two idn w1 hid5);go_wp2_with fail
   refine CW.mono ?_;rintro e w2 ⟨v2,rfl,ho2,hb2⟩;obtain⟨a2,c2,rfl⟩:=own_slice ho2;have S2:=hid (S1.step hb2);have hso:=S2.own;rw[hTT.out]at hso;have hss:=S2.size;clear hb2 k3 k6;go_wp2_with (at_builtin;refine wpList_plain rfl fun _ hK=>wp_append_rows _ _ rfl Tryz.eB8 (by decide) (w.heap.size+1) _ TT _ rfl hso w1.heap.size _ 2 _ rfl ho2 (bs_one _) (by omega) (by omega) hss fun v3 w3 ho3 hg3 hn3=>hK _ _ ?_);have S3:Hid (BoI w pc L v3 w3):=hid (by rw[<-hL.out,<-hQ0.out,if_pos hq];exact S2.app (by rw[hTT.out,numB_len];exact ho3) hg3)
   go_meet
   case rel=>exact S3
  have d:decide (0<(qn:Int))=false:=decide_eq_false (by omega);have S3:Hid (BoI w pc L (.slice a1 TT c1) w1):=hid (by rw[<-hL.out,<-hQ0.out,if_neg hq,List.append_nil];exact S1.out)
  go_wp2_with fail
  go_meet
  case rel=>exact S3
 case rest=>have HS:=hcut;obtain⟨wa,hwa⟩:=gen_of wc;rw[hwa]at HS ⊢;clear hwa k3 k6 S1 hcut;have k5:=kb _ HS.out.pk;rw[List.length_append]at hlen;obtain⟨LL,hLL⟩:=gen_of L.length;have hso:=HS.out.own;rw[hLL]at hso hlen;obtain⟨av,cv,hvv⟩:=own_slice hso;rw[hvv]at hso HS ⊢;have hss:=HS.out.size;have hLL:=hid hLL;have hbl:p.body.length<=5000:=hlb;obtain⟨BB,hBB⟩:=gen_of p.body.length;rw[hBB]at hsz hlen hbl;have hBB:=hid hBB;clear hvv hlb;go_wp2_with (at_builtin;refine Go.Lib.wpList_append_own_string _ rfl _ _ 22 9 rfl _ 5 i0 underlying22 underlying9 hi hz0 hz1 hz2 _ _ _ rfl hso sb rfl (by unfold maxLen;omega) (by omega) hss ?_;intro v9 w9 ho9 hg9 _);have S9:Hid (BoI w pc (L++p.body) v9 w9):=hid (HS.out.app (by rw[hLL.out,hBB.out,<-hsc,<-hsz];exact ho9) hg9);clear ho9 hg9;go_ret;exact⟨S9.below,_,rfl,ownsRow_mono (base':=w.heap.size) S9.own (by omega)⟩
end
end Go.Proofs.YtkghejaimhoboaaGreatDoor
