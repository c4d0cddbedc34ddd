/- Parts of the proof of ScriptRaws. -/
import Derived.Test.YtkghejaimhoboaaGreatDoorPr26
import Derived.Test.YtkghejaimhoboaaGreatDoorPr30
set_option linter.unusedSimpArgs false
set_option linter.unusedVariables false
set_option maxRecDepth 100000
set_option maxHeartbeats 8000000
namespace Go.Proofs.YtkghejaimhoboaaGreatDoor
open Go.RowKit Go.Shelf Go.Proofs.Tryz
section
theorem bk_R16B_alend1{P:Prop}(h:P:=by
 go_wp2_with (first
  | (refine wL 52 rfl rfl HZ.o underlying52 ?_)
  | (refine wS 52 24 rfl (w.heap.size+1) _ _ rfl rfl HZ.res rfl rfl hone.out ?_;intro w9 hw9 hr9))
 refine bodyPost_ret (results_cell1 results113 rfl (run_loadVar_blk hw9 52 underlying52 rfl (by kernel_rfl))) rfl ⟨?_,HZ.below.trans (hr9.below HZ.below.size (by simp))⟩;rw[hfin.out]):P:=h
attribute [local go_sem] Oper.semAt_some
structure AlI (w:World)(pc oc:Array Value)(W:World):Prop where
 below:Below w.heap.size w W
 pack:Blk W w.heap.size pc 52
 res:Blk W (w.heap.size+1) zPc 52
 o:Blk W (w.heap.size+2) oc 52
theorem AlI.put{w:World}{pc oc oc':Array Value}{W W':World}(h:AlI w pc oc W)(ho:Blk W' (w.heap.size+2) oc' 52)(hw:Wrote [w.heap.size+2] W W'):AlI w pc oc' W':=
 ⟨h.below.trans (hw.below h.below.size (by simp)),h.pack.keepW hw (by simp),h.res.keepW hw (by simp),ho⟩
theorem AlI.drew{w:World}{pc oc:Array Value}{W:World}(h:AlI w pc oc W):AlI w pc oc W.drew:=⟨h.below.drew,h.pack,h.res,h.o⟩
theorem build_kind(k:Int)(W:World):(Instr.build 52 #[(0,.int .i64 k)]).run prog W=.ok (.agg ((zPk k).cells h3Z).toArray) W:=by kernel_rfl
def aloneH(p:Pk)(h:H3):H3:=⟨if p.kind=8 then h.w else hdZ,if p.kind=9 then h.c else hdZ,if p.kind=10 then h.f else hdZ⟩
theorem AlI.start(w:World)(pc:Array Value)(k:Int)(W:World)(hw:Wrote [w.heap.size+2] (((w.alloc (.cells pc 52)).alloc (.cells zPc 52)).alloc (.cells zPc 52)) W)(hb:Blk W (w.heap.size+2) ((zPk k).cells h3Z).toArray 52):AlI w pc ((zPk k).cells h3Z).toArray W:=by
 have b1:Below w.heap.size w (((w.alloc (.cells pc 52)).alloc (.cells zPc 52)).alloc (.cells zPc 52)):=((bel_refl.alloc nat_le_rfl _).alloc (by simp) _).alloc (by simp;omega) _;have h1:Blk (((w.alloc (.cells pc 52)).alloc (.cells zPc 52)).alloc (.cells zPc 52)) w.heap.size pc 52:=((Blk.new _ _ _).alloc _).alloc _;have h2:Blk (((w.alloc (.cells pc 52)).alloc (.cells zPc 52)).alloc (.cells zPc 52)) (w.heap.size+1) zPc 52:=by have:=(Blk.new (w.alloc (.cells pc 52)) zPc 52).alloc (.cells zPc 52);simpa using this
 exact⟨b1.trans (hw.below b1.size (by simp)),h1.keepW hw (by simp),h2.keepW hw (by simp),hb⟩
theorem r16_alone1(p:Pk)(h:H3)(w:World)(hk:p.kind=1):Calls prog 113 #[.agg (p.cells h).toArray] w fun e w'=>e=.returned (.agg ((aloneP p).cells (aloneH p h)).toArray)/\Below w.heap.size w w':=by
 have hfin:Hid (((aloneP p).cells (aloneH p h)).toArray=(({zPk 1 with client:=p.client,clean:=p.clean,keep:=p.keep,hasWill:=p.hasWill,will:=p.will,hasUser:=p.hasUser,hasPass:=p.hasPass,user:=p.user,pass:=p.pass}:Pk).cells h3Z).toArray):=hid (by unfold aloneP aloneH;rw[hk];rfl);have hone:=hid (Pk.one ({zPk 1 with client:=p.client,clean:=p.clean,keep:=p.keep,hasWill:=p.hasWill,will:=p.will,hasUser:=p.hasUser,hasPass:=p.hasPass,user:=p.user,pass:=p.pass}:Pk) h3Z);obtain⟨pc,hpc⟩:=gen_of ((p.cells h).toArray);have B2:Blk (((w.alloc (.cells pc 52)).alloc (.cells zPc 52)).alloc (.cells zPc 52)) (w.heap.size+2) zPc 52:=by have:=Blk.new ((w.alloc (.cells pc 52)).alloc (.cells zPc 52)) zPc 52;simpa using this
 have kc:Hid (∀W,Blk W w.heap.size pc 52->W.cell? ⟨w.heap.size,0,none⟩=some (.int .i64 1)):=hid fun W hb=>by rw[hb.cell,<-hpc,<-hk];rfl
 have k0:∀o,((w.alloc (.cells pc 52)).alloc o).cell? ⟨w.heap.size,0,none⟩=some (.int .i64 1):=fun o=>kc.out _ ((Blk.new _ _ _).alloc _);have honek:=hid (Pk.one (zPk 1) h3Z);have c7:Hid (∀W,Blk W w.heap.size pc 52->W.cell? ⟨w.heap.size,7,none⟩=some (.string ⟨p.client.toArray⟩)):=hid fun W hb=>by rw[hb.cell,<-hpc];rfl
 have c8:Hid (∀W,Blk W w.heap.size pc 52->W.cell? ⟨w.heap.size,8,none⟩=some (.bool p.clean)):=hid fun W hb=>by rw[hb.cell,<-hpc];rfl
 have c9:Hid (∀W,Blk W w.heap.size pc 52->W.cell? ⟨w.heap.size,9,none⟩=some (.int .i64 p.keep)):=hid fun W hb=>by rw[hb.cell,<-hpc];rfl
 have c10:Hid (∀W,Blk W w.heap.size pc 52->W.cell? ⟨w.heap.size,10,none⟩=some (.bool p.hasWill)):=hid fun W hb=>by rw[hb.cell,<-hpc];rfl
 have mw:Hid (∀W,Blk W w.heap.size pc 52->W.rangeAt w.heap.size 11 [.string ⟨p.will.topic.toArray⟩,.string ⟨p.will.body.toArray⟩,.int .i64 p.will.qos,.bool p.will.retain]):=hid fun W hb=>hb.mid ((p.cells h).take 11) [.string ⟨p.will.topic.toArray⟩,.string ⟨p.will.body.toArray⟩,.int .i64 p.will.qos,.bool p.will.retain] ((p.cells h).drop 15) (by rw[<-hpc];rfl);have c15:Hid (∀W,Blk W w.heap.size pc 52->W.cell? ⟨w.heap.size,15,none⟩=some (.bool p.hasUser)):=hid fun W hb=>by rw[hb.cell,<-hpc];rfl
 have c16:Hid (∀W,Blk W w.heap.size pc 52->W.cell? ⟨w.heap.size,16,none⟩=some (.bool p.hasPass)):=hid fun W hb=>by rw[hb.cell,<-hpc];rfl
 have c17:Hid (∀W,Blk W w.heap.size pc 52->W.cell? ⟨w.heap.size,17,none⟩=some (.string ⟨p.user.toArray⟩)):=hid fun W hb=>by rw[hb.cell,<-hpc];rfl
 have c18:Hid (∀W,Blk W w.heap.size pc 52->W.cell? ⟨w.heap.size,18,none⟩=some (.string ⟨p.pass.toArray⟩)):=hid fun W hb=>by rw[hb.cell,<-hpc];rfl
 rw[hpc];clear hpc;unfold zPc at B2;go_enter func113,ntmps113;go_upto_region 4 with(first
   | (refine wBuild 52 rfl #[(0,.int .i64 _)] rfl _ (build_kind _) ?_)
   | (refine wS 52 24 rfl (w.heap.size+2) _ _ rfl rfl B2 rfl rfl honek.out ?_;intro w2 hw2 hr2;have HA:=AlI.start w pc _ w2 hr2 hw2;have k2:=kc _ HA.pack;clear B2 k0 hr2))
 have HD:=HA.drew;clear HA hw2 k2;refine regionQ [(1000,fun w'=>Blk w' w.heap.size pc 52)] (by kernel_rfl) ⟨HD.pack,trivial⟩ fun KQ hKQ=>?_;try simp only[PT]
 obtain⟨WD,hWD⟩:=gen_of w2.drew;rw[hWD]at HD ⊢;clear hWD;refine tQ [0] ?_;refine loadQ 1 rfl (by kernel_rfl) (by kernel_rfl) rfl rfl 0 rfl (by kernel_rfl) (.string ⟨p.client.toArray⟩) (fun w' hf=>by(have k0:=c7 _ hf;go_simp<;>with_reducible rfl)) ?_;simp only[PT];refine tQ [2] ?_;refine loadQ 3 rfl (by kernel_rfl) (by kernel_rfl) rfl rfl 0 rfl (by kernel_rfl) (.bool p.clean) (fun w' hf=>by(have k0:=c8 _ hf;go_simp<;>with_reducible rfl)) ?_;simp only[PT];refine tQ [4] ?_;refine loadQ 5 rfl (by kernel_rfl) (by kernel_rfl) rfl rfl 0 rfl (by kernel_rfl) (.int .i64 p.keep) (fun w' hf=>by(have k0:=c9 _ hf;go_simp<;>with_reducible rfl)) ?_;simp only[PT];refine tQ [6] ?_;refine loadQ 7 rfl (by kernel_rfl) (by kernel_rfl) rfl rfl 0 rfl (by kernel_rfl) (.bool p.hasWill) (fun w' hf=>by(have k0:=c10 _ hf;go_simp<;>with_reducible rfl)) ?_;simp only[PT];refine tQ [8] ?_;refine lR 9 0 rfl rfl rfl rfl (v:=.agg ([.string ⟨p.will.topic.toArray⟩,.string ⟨p.will.body.toArray⟩,.int .i64 p.will.qos,.bool p.will.retain]:List Value).toArray) (fun w' hf=>run_loadAt_mid w' _ _ 47 ([.string ⟨p.will.topic.toArray⟩,.string ⟨p.will.body.toArray⟩,.int .i64 p.will.qos,.bool p.will.retain]:List Value) _ (mw _ hf) underlying47 rfl (by kernel_rfl)) ?_;try simp only[PT]
 refine tQ [10] ?_;refine loadQ 11 rfl (by kernel_rfl) (by kernel_rfl) rfl rfl 0 rfl (by kernel_rfl) (.bool p.hasUser) (fun w' hf=>by(have k0:=c15 _ hf;go_simp<;>with_reducible rfl)) ?_;simp only[PT];refine tQ [12] ?_;refine loadQ 13 rfl (by kernel_rfl) (by kernel_rfl) rfl rfl 0 rfl (by kernel_rfl) (.bool p.hasPass) (fun w' hf=>by(have k0:=c16 _ hf;go_simp<;>with_reducible rfl)) ?_;simp only[PT];refine tQ [14] ?_;refine loadQ 15 rfl (by kernel_rfl) (by kernel_rfl) rfl rfl 0 rfl (by kernel_rfl) (.string ⟨p.user.toArray⟩) (fun w' hf=>by(have k0:=c17 _ hf;go_simp<;>with_reducible rfl)) ?_;simp only[PT];refine tQ [16] ?_;refine loadQ 17 rfl (by kernel_rfl) (by kernel_rfl) rfl rfl 0 rfl (by kernel_rfl) (.string ⟨p.pass.toArray⟩) (fun w' hf=>by(have k0:=c18 _ hf;go_simp<;>with_reducible rfl)) ?_;simp only[PT];refine tQ [18] ?_;refine sQ 19 fun K hK=>?_;simp only[GO];refine wp_store_cell 9 52 _ _ rfl (fun w=>by kernel_rfl) (w.heap.size+2) 7 _ _ rfl rfl HD.o (by exact(by decide:7<24)) rfl rfl ?_;intro wx0 ho hw;have H0:=HD.put ho hw;clear ho hw;refine hK _ _ ⟨⟨fun _=>H0.pack,trivial⟩,?_⟩;clear hK K;try simp only[PT]
 refine tQ [20] ?_;refine sQ 21 fun K hK=>?_;simp only[GO];refine wp_store_cell 4 52 _ _ rfl (fun w=>by kernel_rfl) (w.heap.size+2) 8 _ _ rfl rfl H0.o (by exact(by decide:8<24)) rfl rfl ?_;intro wx1 ho hw;have H1:=H0.put ho hw;clear ho hw;refine hK _ _ ⟨⟨fun _=>H1.pack,trivial⟩,?_⟩;clear hK K;try simp only[PT]
 refine tQ [22] ?_;refine sQ 23 fun K hK=>?_;simp only[GO];refine wp_store_cell 2 52 _ _ rfl (fun w=>by kernel_rfl) (w.heap.size+2) 9 _ _ rfl rfl H1.o (by exact(by decide:9<24)) rfl rfl ?_;intro wx2 ho hw;have H2:=H1.put ho hw;clear ho hw;refine hK _ _ ⟨⟨fun _=>H2.pack,trivial⟩,?_⟩;clear hK K;try simp only[PT]
 refine tQ [24] ?_;refine sQ 25 fun K hK=>?_;simp only[GO];refine wp_store_cell 4 52 _ _ rfl (fun w=>by kernel_rfl) (w.heap.size+2) 10 _ _ rfl rfl H2.o (by exact(by decide:10<24)) rfl rfl ?_;intro wx3 ho hw;have H3:=H2.put ho hw;clear ho hw;refine hK _ _ ⟨⟨fun _=>H3.pack,trivial⟩,?_⟩;clear hK K;try simp only[PT]
 refine tQ [26] ?_;refine sQ 27 fun K hK=>?_;simp only[GO];refine wp_store_mid 47 52 _ _ rfl 4 (fun w=>by kernel_rfl) (w.heap.size+2) 11 _ ([.string ⟨p.will.topic.toArray⟩,.string ⟨p.will.body.toArray⟩,.int .i64 p.will.qos,.bool p.will.retain]:List Value).toArray rfl rfl H3.o rfl (by exact(by decide:11+4<=24)) (by simp[Value.oneCell']) ?_;intro wx4 ho hw;have H4:=H3.put ho hw;clear ho hw;refine hK _ _ ⟨⟨fun _=>H4.pack,trivial⟩,?_⟩;clear hK K;try simp only[PT]
 refine tQ [28] ?_;refine sQ 29 fun K hK=>?_;simp only[GO];refine wp_store_cell 4 52 _ _ rfl (fun w=>by kernel_rfl) (w.heap.size+2) 15 _ _ rfl rfl H4.o (by exact(by decide:15<24)) rfl rfl ?_;intro wx5 ho hw;have H5:=H4.put ho hw;clear ho hw;refine hK _ _ ⟨⟨fun _=>H5.pack,trivial⟩,?_⟩;clear hK K;try simp only[PT]
 refine tQ [30] ?_;refine sQ 31 fun K hK=>?_;simp only[GO];refine wp_store_cell 4 52 _ _ rfl (fun w=>by kernel_rfl) (w.heap.size+2) 16 _ _ rfl rfl H5.o (by exact(by decide:16<24)) rfl rfl ?_;intro wx6 ho hw;have H6:=H5.put ho hw;clear ho hw;refine hK _ _ ⟨⟨fun _=>H6.pack,trivial⟩,?_⟩;clear hK K;try simp only[PT]
 refine tQ [32] ?_;refine sQ 33 fun K hK=>?_;simp only[GO];refine wp_store_cell 9 52 _ _ rfl (fun w=>by kernel_rfl) (w.heap.size+2) 17 _ _ rfl rfl H6.o (by exact(by decide:17<24)) rfl rfl ?_;intro wx7 ho hw;have H7:=H6.put ho hw;clear ho hw;refine hK _ _ ⟨⟨fun _=>H7.pack,trivial⟩,?_⟩;clear hK K;try simp only[PT]
 refine tQ [34] ?_;refine sQ 35 fun K hK=>?_;simp only[GO];refine wp_store_cell 9 52 _ _ rfl (fun w=>by kernel_rfl) (w.heap.size+2) 18 _ _ rfl rfl H7.o (by exact(by decide:18<24)) rfl rfl ?_;intro wx8 ho hw;have H8:=H7.put ho hw;clear ho hw;refine hK _ _ ⟨⟨fun _=>H8.pack,trivial⟩,?_⟩;clear hK K;try simp only[PT]
 refine dQ (hKQ.out _ _ ?_);clear hKQ KQ;have HZ:AlI w pc (({zPk 1 with client:=p.client,clean:=p.clean,keep:=p.keep,hasWill:=p.hasWill,will:=p.will,hasUser:=p.hasUser,hasPass:=p.hasPass,user:=p.user,pass:=p.pass}:Pk).cells h3Z).toArray wx8:=H8;clear HD H0 H1 H2 H3 H4 H5 H6 H7 H8;exact bk_R16B_alend1
theorem r16_alone2(p:Pk)(h:H3)(w:World)(hk:p.kind=2):Calls prog 113 #[.agg (p.cells h).toArray] w fun e w'=>e=.returned (.agg ((aloneP p).cells (aloneH p h)).toArray)/\Below w.heap.size w w':=by
 have hfin:Hid (((aloneP p).cells (aloneH p h)).toArray=(({zPk 2 with present:=p.present,code:=p.code}:Pk).cells h3Z).toArray):=hid (by unfold aloneP aloneH;rw[hk];rfl);have hone:=hid (Pk.one ({zPk 2 with present:=p.present,code:=p.code}:Pk) h3Z);obtain⟨pc,hpc⟩:=gen_of ((p.cells h).toArray);have B2:Blk (((w.alloc (.cells pc 52)).alloc (.cells zPc 52)).alloc (.cells zPc 52)) (w.heap.size+2) zPc 52:=by have:=Blk.new ((w.alloc (.cells pc 52)).alloc (.cells zPc 52)) zPc 52;simpa using this
 have kc:Hid (∀W,Blk W w.heap.size pc 52->W.cell? ⟨w.heap.size,0,none⟩=some (.int .i64 2)):=hid fun W hb=>by rw[hb.cell,<-hpc,<-hk];rfl
 have k0:∀o,((w.alloc (.cells pc 52)).alloc o).cell? ⟨w.heap.size,0,none⟩=some (.int .i64 2):=fun o=>kc.out _ ((Blk.new _ _ _).alloc _);have honek:=hid (Pk.one (zPk 2) h3Z);have c19:Hid (∀W,Blk W w.heap.size pc 52->W.cell? ⟨w.heap.size,19,none⟩=some (.bool p.present)):=hid fun W hb=>by rw[hb.cell,<-hpc];rfl
 have c20:Hid (∀W,Blk W w.heap.size pc 52->W.cell? ⟨w.heap.size,20,none⟩=some (.int .i64 p.code)):=hid fun W hb=>by rw[hb.cell,<-hpc];rfl
 rw[hpc];clear hpc;unfold zPc at B2;go_enter func113,ntmps113;go_upto_region 6 with(first
   | (refine wBuild 52 rfl #[(0,.int .i64 _)] rfl _ (build_kind _) ?_)
   | (refine wS 52 24 rfl (w.heap.size+2) _ _ rfl rfl B2 rfl rfl honek.out ?_;intro w2 hw2 hr2;have HA:=AlI.start w pc _ w2 hr2 hw2;have k2:=kc _ HA.pack;clear B2 k0 hr2))
 have HD:=HA.drew;clear HA hw2 k2;refine regionQ [(1000,fun w'=>Blk w' w.heap.size pc 52)] (by kernel_rfl) ⟨HD.pack,trivial⟩ fun KQ hKQ=>?_;try simp only[PT]
 obtain⟨WD,hWD⟩:=gen_of w2.drew;rw[hWD]at HD ⊢;clear hWD;refine tQ [0] ?_;refine loadQ 1 rfl (by kernel_rfl) (by kernel_rfl) rfl rfl 0 rfl (by kernel_rfl) (.bool p.present) (fun w' hf=>by(have k0:=c19 _ hf;go_simp<;>with_reducible rfl)) ?_;simp only[PT];refine tQ [2] ?_;refine loadQ 3 rfl (by kernel_rfl) (by kernel_rfl) rfl rfl 0 rfl (by kernel_rfl) (.int .i64 p.code) (fun w' hf=>by(have k0:=c20 _ hf;go_simp<;>with_reducible rfl)) ?_;simp only[PT];refine tQ [4] ?_;refine sQ 5 fun K hK=>?_;simp only[GO];refine wp_store_cell 4 52 _ _ rfl (fun w=>by kernel_rfl) (w.heap.size+2) 19 _ _ rfl rfl HD.o (by exact(by decide:19<24)) rfl rfl ?_;intro wx0 ho hw;have H0:=HD.put ho hw;clear ho hw;refine hK _ _ ⟨⟨fun _=>H0.pack,trivial⟩,?_⟩;clear hK K;try simp only[PT]
 refine tQ [6] ?_;refine sQ 7 fun K hK=>?_;simp only[GO];refine wp_store_cell 3 52 _ _ rfl (fun w=>by kernel_rfl) (w.heap.size+2) 20 _ _ rfl rfl H0.o (by exact(by decide:20<24)) rfl rfl ?_;intro wx1 ho hw;have H1:=H0.put ho hw;clear ho hw;refine hK _ _ ⟨⟨fun _=>H1.pack,trivial⟩,?_⟩;clear hK K;try simp only[PT]
 refine dQ (hKQ.out _ _ ?_);clear hKQ KQ;have HZ:AlI w pc (({zPk 2 with present:=p.present,code:=p.code}:Pk).cells h3Z).toArray wx1:=H1;clear HD H0 H1;exact bk_R16B_alend1
theorem r16_alone3(p:Pk)(h:H3)(w:World)(hk:p.kind=3):Calls prog 113 #[.agg (p.cells h).toArray] w fun e w'=>e=.returned (.agg ((aloneP p).cells (aloneH p h)).toArray)/\Below w.heap.size w w':=by
 have hfin:Hid (((aloneP p).cells (aloneH p h)).toArray=(({zPk 3 with topic:=p.topic,body:=p.body,qos:=p.qos,retain:=p.retain,dup:=p.dup,id:=p.id}:Pk).cells h3Z).toArray):=hid (by unfold aloneP aloneH;rw[hk];rfl);have hone:=hid (Pk.one ({zPk 3 with topic:=p.topic,body:=p.body,qos:=p.qos,retain:=p.retain,dup:=p.dup,id:=p.id}:Pk) h3Z);obtain⟨pc,hpc⟩:=gen_of ((p.cells h).toArray);have B2:Blk (((w.alloc (.cells pc 52)).alloc (.cells zPc 52)).alloc (.cells zPc 52)) (w.heap.size+2) zPc 52:=by have:=Blk.new ((w.alloc (.cells pc 52)).alloc (.cells zPc 52)) zPc 52;simpa using this
 have kc:Hid (∀W,Blk W w.heap.size pc 52->W.cell? ⟨w.heap.size,0,none⟩=some (.int .i64 3)):=hid fun W hb=>by rw[hb.cell,<-hpc,<-hk];rfl
 have k0:∀o,((w.alloc (.cells pc 52)).alloc o).cell? ⟨w.heap.size,0,none⟩=some (.int .i64 3):=fun o=>kc.out _ ((Blk.new _ _ _).alloc _);have honek:=hid (Pk.one (zPk 3) h3Z);have c4:Hid (∀W,Blk W w.heap.size pc 52->W.cell? ⟨w.heap.size,4,none⟩=some (.string ⟨p.topic.toArray⟩)):=hid fun W hb=>by rw[hb.cell,<-hpc];rfl
 have c5:Hid (∀W,Blk W w.heap.size pc 52->W.cell? ⟨w.heap.size,5,none⟩=some (.string ⟨p.body.toArray⟩)):=hid fun W hb=>by rw[hb.cell,<-hpc];rfl
 have c3:Hid (∀W,Blk W w.heap.size pc 52->W.cell? ⟨w.heap.size,3,none⟩=some (.int .i64 p.qos)):=hid fun W hb=>by rw[hb.cell,<-hpc];rfl
 have c2:Hid (∀W,Blk W w.heap.size pc 52->W.cell? ⟨w.heap.size,2,none⟩=some (.bool p.retain)):=hid fun W hb=>by rw[hb.cell,<-hpc];rfl
 have c1:Hid (∀W,Blk W w.heap.size pc 52->W.cell? ⟨w.heap.size,1,none⟩=some (.bool p.dup)):=hid fun W hb=>by rw[hb.cell,<-hpc];rfl
 have c6:Hid (∀W,Blk W w.heap.size pc 52->W.cell? ⟨w.heap.size,6,none⟩=some (.int .i64 p.id)):=hid fun W hb=>by rw[hb.cell,<-hpc];rfl
 rw[hpc];clear hpc;unfold zPc at B2;go_enter func113,ntmps113;go_upto_region 8 with(first
   | (refine wBuild 52 rfl #[(0,.int .i64 _)] rfl _ (build_kind _) ?_)
   | (refine wS 52 24 rfl (w.heap.size+2) _ _ rfl rfl B2 rfl rfl honek.out ?_;intro w2 hw2 hr2;have HA:=AlI.start w pc _ w2 hr2 hw2;have k2:=kc _ HA.pack;clear B2 k0 hr2))
 have HD:=HA.drew;clear HA hw2 k2;refine regionQ [(1000,fun w'=>Blk w' w.heap.size pc 52)] (by kernel_rfl) ⟨HD.pack,trivial⟩ fun KQ hKQ=>?_;try simp only[PT]
 obtain⟨WD,hWD⟩:=gen_of w2.drew;rw[hWD]at HD ⊢;clear hWD;refine tQ [0] ?_;refine loadQ 1 rfl (by kernel_rfl) (by kernel_rfl) rfl rfl 0 rfl (by kernel_rfl) (.string ⟨p.topic.toArray⟩) (fun w' hf=>by(have k0:=c4 _ hf;go_simp<;>with_reducible rfl)) ?_;simp only[PT];refine tQ [2] ?_;refine loadQ 3 rfl (by kernel_rfl) (by kernel_rfl) rfl rfl 0 rfl (by kernel_rfl) (.string ⟨p.body.toArray⟩) (fun w' hf=>by(have k0:=c5 _ hf;go_simp<;>with_reducible rfl)) ?_;simp only[PT];refine tQ [4] ?_;refine loadQ 5 rfl (by kernel_rfl) (by kernel_rfl) rfl rfl 0 rfl (by kernel_rfl) (.int .i64 p.qos) (fun w' hf=>by(have k0:=c3 _ hf;go_simp<;>with_reducible rfl)) ?_;simp only[PT];refine tQ [6] ?_;refine loadQ 7 rfl (by kernel_rfl) (by kernel_rfl) rfl rfl 0 rfl (by kernel_rfl) (.bool p.retain) (fun w' hf=>by(have k0:=c2 _ hf;go_simp<;>with_reducible rfl)) ?_;simp only[PT];refine tQ [8] ?_;refine loadQ 9 rfl (by kernel_rfl) (by kernel_rfl) rfl rfl 0 rfl (by kernel_rfl) (.bool p.dup) (fun w' hf=>by(have k0:=c1 _ hf;go_simp<;>with_reducible rfl)) ?_;simp only[PT];refine tQ [10] ?_;refine loadQ 11 rfl (by kernel_rfl) (by kernel_rfl) rfl rfl 0 rfl (by kernel_rfl) (.int .i64 p.id) (fun w' hf=>by(have k0:=c6 _ hf;go_simp<;>with_reducible rfl)) ?_;simp only[PT];refine tQ [12] ?_;refine sQ 13 fun K hK=>?_;simp only[GO];refine wp_store_cell 9 52 _ _ rfl (fun w=>by kernel_rfl) (w.heap.size+2) 4 _ _ rfl rfl HD.o (by exact(by decide:4<24)) rfl rfl ?_;intro wx0 ho hw;have H0:=HD.put ho hw
 clear ho hw;refine hK _ _ ⟨⟨fun _=>H0.pack,trivial⟩,?_⟩;clear hK K;try simp only[PT]
 refine tQ [14] ?_;refine sQ 15 fun K hK=>?_;simp only[GO];refine wp_store_cell 9 52 _ _ rfl (fun w=>by kernel_rfl) (w.heap.size+2) 5 _ _ rfl rfl H0.o (by exact(by decide:5<24)) rfl rfl ?_;intro wx1 ho hw;have H1:=H0.put ho hw;clear ho hw;refine hK _ _ ⟨⟨fun _=>H1.pack,trivial⟩,?_⟩;clear hK K;try simp only[PT]
 refine tQ [16] ?_;refine sQ 17 fun K hK=>?_;simp only[GO];refine wp_store_cell 3 52 _ _ rfl (fun w=>by kernel_rfl) (w.heap.size+2) 3 _ _ rfl rfl H1.o (by exact(by decide:3<24)) rfl rfl ?_;intro wx2 ho hw;have H2:=H1.put ho hw;clear ho hw;refine hK _ _ ⟨⟨fun _=>H2.pack,trivial⟩,?_⟩;clear hK K;try simp only[PT]
 refine tQ [18] ?_;refine sQ 19 fun K hK=>?_;simp only[GO];refine wp_store_cell 4 52 _ _ rfl (fun w=>by kernel_rfl) (w.heap.size+2) 2 _ _ rfl rfl H2.o (by exact(by decide:2<24)) rfl rfl ?_;intro wx3 ho hw;have H3:=H2.put ho hw;clear ho hw;refine hK _ _ ⟨⟨fun _=>H3.pack,trivial⟩,?_⟩;clear hK K;try simp only[PT]
 refine tQ [20] ?_;refine sQ 21 fun K hK=>?_;simp only[GO];refine wp_store_cell 4 52 _ _ rfl (fun w=>by kernel_rfl) (w.heap.size+2) 1 _ _ rfl rfl H3.o (by exact(by decide:1<24)) rfl rfl ?_;intro wx4 ho hw;have H4:=H3.put ho hw;clear ho hw;refine hK _ _ ⟨⟨fun _=>H4.pack,trivial⟩,?_⟩;clear hK K;try simp only[PT]
 refine tQ [22] ?_;refine sQ 23 fun K hK=>?_;simp only[GO];refine wp_store_cell 2 52 _ _ rfl (fun w=>by kernel_rfl) (w.heap.size+2) 6 _ _ rfl rfl H4.o (by exact(by decide:6<24)) rfl rfl ?_;intro wx5 ho hw;have H5:=H4.put ho hw;clear ho hw;refine hK _ _ ⟨⟨fun _=>H5.pack,trivial⟩,?_⟩;clear hK K;try simp only[PT]
 refine dQ (hKQ.out _ _ ?_);clear hKQ KQ;have HZ:AlI w pc (({zPk 3 with topic:=p.topic,body:=p.body,qos:=p.qos,retain:=p.retain,dup:=p.dup,id:=p.id}:Pk).cells h3Z).toArray wx5:=H5;clear HD H0 H1 H2 H3 H4 H5;exact bk_R16B_alend1
theorem r16_alone4(p:Pk)(h:H3)(w:World)(k:Int)(hg:k=4\/k=5\/k=6\/k=7\/k=11)(hk:p.kind=k):Calls prog 113 #[.agg (p.cells h).toArray] w fun e w'=>e=.returned (.agg ((aloneP p).cells (aloneH p h)).toArray)/\Below w.heap.size w w':=by
 have hfin:Hid (((aloneP p).cells (aloneH p h)).toArray=(({zPk k with id:=p.id}:Pk).cells h3Z).toArray):=hid (by unfold aloneP aloneH;rw[hk];rcases hg with rfl | rfl | rfl | rfl | rfl<;>rfl);have hone:=hid (Pk.one ({zPk k with id:=p.id}:Pk) h3Z);obtain⟨pc,hpc⟩:=gen_of ((p.cells h).toArray);have B2:Blk (((w.alloc (.cells pc 52)).alloc (.cells zPc 52)).alloc (.cells zPc 52)) (w.heap.size+2) zPc 52:=by have:=Blk.new ((w.alloc (.cells pc 52)).alloc (.cells zPc 52)) zPc 52;simpa using this
 have kc:Hid (∀W,Blk W w.heap.size pc 52->W.cell? ⟨w.heap.size,0,none⟩=some (.int .i64 k)):=hid fun W hb=>by rw[hb.cell,<-hpc,<-hk];rfl
 have k0:∀o,((w.alloc (.cells pc 52)).alloc o).cell? ⟨w.heap.size,0,none⟩=some (.int .i64 k):=fun o=>kc.out _ ((Blk.new _ _ _).alloc _);have honek:=hid (Pk.one (zPk k) h3Z);have c6:Hid (∀W,Blk W w.heap.size pc 52->W.cell? ⟨w.heap.size,6,none⟩=some (.int .i64 p.id)):=hid fun W hb=>by rw[hb.cell,<-hpc];rfl
 rw[hpc];clear hpc;unfold zPc at B2;rcases hg with rfl | rfl | rfl | rfl | rfl
 all_goals
  go_enter func113,ntmps113;go_upto_region 17 with(first
    | (refine wBuild 52 rfl #[(0,.int .i64 _)] rfl _ (build_kind _) ?_)
    | (refine wS 52 24 rfl (w.heap.size+2) _ _ rfl rfl B2 rfl rfl honek.out ?_;intro w2 hw2 hr2;have HA:=AlI.start w pc _ w2 hr2 hw2;have k2:=kc _ HA.pack;have k6:=c6 _ HA.pack;clear B2 k0 hr2)
    | (refine wpList_store_cell rfl 2 52 _ _ rfl (fun w=>by kernel_rfl) (w.heap.size+2) 6 _ _ rfl rfl HA.o (by exact(by decide:6<24)) rfl rfl ?_;intro w3 ho3 hw3;have HB:=HA.put ho3 hw3;have k3:=c6 _ HB.pack;clear HA ho3 hw3 hw2))
  have HZ:AlI w pc (({zPk _ with id:=p.id}:Pk).cells h3Z).toArray w3:=HB;clear HB;exact bk_R16B_alend1
theorem r16_alone8(p:Pk)(h:H3)(w:World)(hk:p.kind=8):Calls prog 113 #[.agg (p.cells h).toArray] w fun e w'=>e=.returned (.agg ((aloneP p).cells (aloneH p h)).toArray)/\Below w.heap.size w w':=by
 have hfin:Hid (((aloneP p).cells (aloneH p h)).toArray=(({zPk 8 with id:=p.id,wants:=p.wants}:Pk).cells ⟨h.w,hdZ,hdZ⟩).toArray):=hid (by unfold aloneP aloneH;rw[hk];rfl);have hone:=hid (Pk.one ({zPk 8 with id:=p.id,wants:=p.wants}:Pk) ⟨h.w,hdZ,hdZ⟩);obtain⟨pc,hpc⟩:=gen_of ((p.cells h).toArray);have B2:Blk (((w.alloc (.cells pc 52)).alloc (.cells zPc 52)).alloc (.cells zPc 52)) (w.heap.size+2) zPc 52:=by have:=Blk.new ((w.alloc (.cells pc 52)).alloc (.cells zPc 52)) zPc 52;simpa using this
 have kc:Hid (∀W,Blk W w.heap.size pc 52->W.cell? ⟨w.heap.size,0,none⟩=some (.int .i64 8)):=hid fun W hb=>by rw[hb.cell,<-hpc,<-hk];rfl
 have k0:∀o,((w.alloc (.cells pc 52)).alloc o).cell? ⟨w.heap.size,0,none⟩=some (.int .i64 8):=fun o=>kc.out _ ((Blk.new _ _ _).alloc _);have honek:=hid (Pk.one (zPk 8) h3Z);have c6:Hid (∀W,Blk W w.heap.size pc 52->W.cell? ⟨w.heap.size,6,none⟩=some (.int .i64 p.id)):=hid fun W hb=>by rw[hb.cell,<-hpc];rfl
 have c21:Hid (∀W,Blk W w.heap.size pc 52->W.cell? ⟨w.heap.size,21,none⟩=some (.slice h.w.a h.w.n h.w.c)):=hid fun W hb=>by rw[hb.cell,<-hpc];rfl
 rw[hpc];clear hpc;unfold zPc at B2;go_enter func113,ntmps113;go_upto_region 17 with(first
   | (refine wBuild 52 rfl #[(0,.int .i64 _)] rfl _ (build_kind _) ?_)
   | (refine wS 52 24 rfl (w.heap.size+2) _ _ rfl rfl B2 rfl rfl honek.out ?_;intro w2 hw2 hr2;have HA:=AlI.start w pc _ w2 hr2 hw2;have k2:=kc _ HA.pack;have k6:=c6 _ HA.pack;clear B2 k0 hr2)
   | (refine wpList_store_cell rfl 2 52 _ _ rfl (fun w=>by kernel_rfl) (w.heap.size+2) 6 _ _ rfl rfl HA.o (by exact(by decide:6<24)) rfl rfl ?_;intro w3 ho3 hw3;have HB:=HA.put ho3 hw3;have k3:=c21 _ HB.pack;clear HA ho3 hw3 hw2)
   | (refine wpList_store_cell rfl 48 52 _ _ rfl (fun w=>by kernel_rfl) (w.heap.size+2) 21 _ _ rfl rfl HB.o (by exact(by decide:21<24)) rfl rfl ?_;intro w4 ho4 hw4;have HC:=HB.put ho4 hw4;clear HB ho4 hw4))
 have HZ:AlI w pc (({zPk _ with id:=p.id,wants:=p.wants}:Pk).cells ⟨h.w,hdZ,hdZ⟩).toArray w4:=HC;clear HC;exact bk_R16B_alend1
theorem r16_alone9(p:Pk)(h:H3)(w:World)(hk:p.kind=9):Calls prog 113 #[.agg (p.cells h).toArray] w fun e w'=>e=.returned (.agg ((aloneP p).cells (aloneH p h)).toArray)/\Below w.heap.size w w':=by
 have hfin:Hid (((aloneP p).cells (aloneH p h)).toArray=(({zPk 9 with id:=p.id,codes:=p.codes}:Pk).cells ⟨hdZ,h.c,hdZ⟩).toArray):=hid (by unfold aloneP aloneH;rw[hk];rfl);have hone:=hid (Pk.one ({zPk 9 with id:=p.id,codes:=p.codes}:Pk) ⟨hdZ,h.c,hdZ⟩);obtain⟨pc,hpc⟩:=gen_of ((p.cells h).toArray);have B2:Blk (((w.alloc (.cells pc 52)).alloc (.cells zPc 52)).alloc (.cells zPc 52)) (w.heap.size+2) zPc 52:=by have:=Blk.new ((w.alloc (.cells pc 52)).alloc (.cells zPc 52)) zPc 52;simpa using this
 have kc:Hid (∀W,Blk W w.heap.size pc 52->W.cell? ⟨w.heap.size,0,none⟩=some (.int .i64 9)):=hid fun W hb=>by rw[hb.cell,<-hpc,<-hk];rfl
 have k0:∀o,((w.alloc (.cells pc 52)).alloc o).cell? ⟨w.heap.size,0,none⟩=some (.int .i64 9):=fun o=>kc.out _ ((Blk.new _ _ _).alloc _);have honek:=hid (Pk.one (zPk 9) h3Z);have c6:Hid (∀W,Blk W w.heap.size pc 52->W.cell? ⟨w.heap.size,6,none⟩=some (.int .i64 p.id)):=hid fun W hb=>by rw[hb.cell,<-hpc];rfl
 have c22:Hid (∀W,Blk W w.heap.size pc 52->W.cell? ⟨w.heap.size,22,none⟩=some (.slice h.c.a h.c.n h.c.c)):=hid fun W hb=>by rw[hb.cell,<-hpc];rfl
 rw[hpc];clear hpc;unfold zPc at B2;go_enter func113,ntmps113;go_upto_region 17 with(first
   | (refine wBuild 52 rfl #[(0,.int .i64 _)] rfl _ (build_kind _) ?_)
   | (refine wS 52 24 rfl (w.heap.size+2) _ _ rfl rfl B2 rfl rfl honek.out ?_;intro w2 hw2 hr2;have HA:=AlI.start w pc _ w2 hr2 hw2;have k2:=kc _ HA.pack;have k6:=c6 _ HA.pack;clear B2 k0 hr2)
   | (refine wpList_store_cell rfl 2 52 _ _ rfl (fun w=>by kernel_rfl) (w.heap.size+2) 6 _ _ rfl rfl HA.o (by exact(by decide:6<24)) rfl rfl ?_;intro w3 ho3 hw3;have HB:=HA.put ho3 hw3;have k3:=c22 _ HB.pack;clear HA ho3 hw3 hw2)
   | (refine wpList_store_cell rfl 49 52 _ _ rfl (fun w=>by kernel_rfl) (w.heap.size+2) 22 _ _ rfl rfl HB.o (by exact(by decide:22<24)) rfl rfl ?_;intro w4 ho4 hw4;have HC:=HB.put ho4 hw4;clear HB ho4 hw4))
 have HZ:AlI w pc (({zPk _ with id:=p.id,codes:=p.codes}:Pk).cells ⟨hdZ,h.c,hdZ⟩).toArray w4:=HC;clear HC;exact bk_R16B_alend1
theorem r16_alone10(p:Pk)(h:H3)(w:World)(hk:p.kind=10):Calls prog 113 #[.agg (p.cells h).toArray] w fun e w'=>e=.returned (.agg ((aloneP p).cells (aloneH p h)).toArray)/\Below w.heap.size w w':=by
 have hfin:Hid (((aloneP p).cells (aloneH p h)).toArray=(({zPk 10 with id:=p.id,filters:=p.filters}:Pk).cells ⟨hdZ,hdZ,h.f⟩).toArray):=hid (by unfold aloneP aloneH;rw[hk];rfl);have hone:=hid (Pk.one ({zPk 10 with id:=p.id,filters:=p.filters}:Pk) ⟨hdZ,hdZ,h.f⟩);obtain⟨pc,hpc⟩:=gen_of ((p.cells h).toArray);have B2:Blk (((w.alloc (.cells pc 52)).alloc (.cells zPc 52)).alloc (.cells zPc 52)) (w.heap.size+2) zPc 52:=by have:=Blk.new ((w.alloc (.cells pc 52)).alloc (.cells zPc 52)) zPc 52;simpa using this
 have kc:Hid (∀W,Blk W w.heap.size pc 52->W.cell? ⟨w.heap.size,0,none⟩=some (.int .i64 10)):=hid fun W hb=>by rw[hb.cell,<-hpc,<-hk];rfl
 have k0:∀o,((w.alloc (.cells pc 52)).alloc o).cell? ⟨w.heap.size,0,none⟩=some (.int .i64 10):=fun o=>kc.out _ ((Blk.new _ _ _).alloc _);have honek:=hid (Pk.one (zPk 10) h3Z);have c6:Hid (∀W,Blk W w.heap.size pc 52->W.cell? ⟨w.heap.size,6,none⟩=some (.int .i64 p.id)):=hid fun W hb=>by rw[hb.cell,<-hpc];rfl
 have c23:Hid (∀W,Blk W w.heap.size pc 52->W.cell? ⟨w.heap.size,23,none⟩=some (.slice h.f.a h.f.n h.f.c)):=hid fun W hb=>by rw[hb.cell,<-hpc];rfl
 rw[hpc];clear hpc;unfold zPc at B2;go_enter func113,ntmps113;go_upto_region 17 with(first
   | (refine wBuild 52 rfl #[(0,.int .i64 _)] rfl _ (build_kind _) ?_)
   | (refine wS 52 24 rfl (w.heap.size+2) _ _ rfl rfl B2 rfl rfl honek.out ?_;intro w2 hw2 hr2;have HA:=AlI.start w pc _ w2 hr2 hw2;have k2:=kc _ HA.pack;have k6:=c6 _ HA.pack;clear B2 k0 hr2)
   | (refine wpList_store_cell rfl 2 52 _ _ rfl (fun w=>by kernel_rfl) (w.heap.size+2) 6 _ _ rfl rfl HA.o (by exact(by decide:6<24)) rfl rfl ?_;intro w3 ho3 hw3;have HB:=HA.put ho3 hw3;have k3:=c23 _ HB.pack;clear HA ho3 hw3 hw2)
   | (refine wpList_store_cell rfl 50 52 _ _ rfl (fun w=>by kernel_rfl) (w.heap.size+2) 23 _ _ rfl rfl HB.o (by exact(by decide:23<24)) rfl rfl ?_;intro w4 ho4 hw4;have HC:=HB.put ho4 hw4;clear HB ho4 hw4))
 have HZ:AlI w pc (({zPk _ with id:=p.id,filters:=p.filters}:Pk).cells ⟨hdZ,hdZ,h.f⟩).toArray w4:=HC;clear HC;exact bk_R16B_alend1
theorem r16_alone12(p:Pk)(h:H3)(w:World)(k:Int)(hg:k=12\/k=13\/k=14)(hk:p.kind=k):Calls prog 113 #[.agg (p.cells h).toArray] w fun e w'=>e=.returned (.agg ((aloneP p).cells (aloneH p h)).toArray)/\Below w.heap.size w w':=by
 have hfin:Hid (((aloneP p).cells (aloneH p h)).toArray=((zPk k).cells h3Z).toArray):=hid (by unfold aloneP aloneH;rw[hk];rcases hg with rfl | rfl | rfl<;>rfl);have hone:=hid (Pk.one (zPk k) h3Z);obtain⟨pc,hpc⟩:=gen_of ((p.cells h).toArray);have B2:Blk (((w.alloc (.cells pc 52)).alloc (.cells zPc 52)).alloc (.cells zPc 52)) (w.heap.size+2) zPc 52:=by have:=Blk.new ((w.alloc (.cells pc 52)).alloc (.cells zPc 52)) zPc 52;simpa using this
 have kc:Hid (∀W,Blk W w.heap.size pc 52->W.cell? ⟨w.heap.size,0,none⟩=some (.int .i64 k)):=hid fun W hb=>by rw[hb.cell,<-hpc,<-hk];rfl
 have k0:∀o,((w.alloc (.cells pc 52)).alloc o).cell? ⟨w.heap.size,0,none⟩=some (.int .i64 k):=fun o=>kc.out _ ((Blk.new _ _ _).alloc _);have honek:=hid (Pk.one (zPk k) h3Z);rw[hpc];clear hpc;unfold zPc at B2;rcases hg with rfl | rfl | rfl
 all_goals
  go_enter func113,ntmps113;go_upto_region 17 with(first
    | (refine wBuild 52 rfl #[(0,.int .i64 _)] rfl _ (build_kind _) ?_)
    | (refine wS 52 24 rfl (w.heap.size+2) _ _ rfl rfl B2 rfl rfl honek.out ?_;intro w2 hw2 hr2;have HA:=AlI.start w pc _ w2 hr2 hw2;have k2:=kc _ HA.pack;clear B2 k0 hr2))
  have HZ:AlI w pc ((zPk _).cells h3Z).toArray w2:=HA;clear HA;exact bk_R16B_alend1
theorem r16_alone(p:Pk)(h:H3)(w:World)(hk:1<=p.kind/\p.kind<=14):Calls prog 113 #[.agg (p.cells h).toArray] w fun e w'=>e=.returned (.agg ((aloneP p).cells (aloneH p h)).toArray)/\Below w.heap.size w w':=by
 have:p.kind=1\/p.kind=2\/p.kind=3\/p.kind=4\/p.kind=5\/p.kind=6\/p.kind=7\/p.kind=8\/p.kind=9\/p.kind=10\/p.kind=11\/p.kind=12\/p.kind=13\/p.kind=14:=by omega
 rcases this with hk | hk | hk | hk | hk | hk | hk | hk | hk | hk | hk | hk | hk | hk
 ·exact r16_alone1 p h w hk
 ·exact r16_alone2 p h w hk
 ·exact r16_alone3 p h w hk
 ·exact r16_alone4 p h w 4 (by omega) hk
 ·exact r16_alone4 p h w 5 (by omega) hk
 ·exact r16_alone4 p h w 6 (by omega) hk
 ·exact r16_alone4 p h w 7 (by omega) hk
 ·exact r16_alone8 p h w hk
 ·exact r16_alone9 p h w hk
 ·exact r16_alone10 p h w hk
 ·exact r16_alone4 p h w 11 (by omega) hk
 ·exact r16_alone12 p h w 12 (by omega) hk
 ·exact r16_alone12 p h w 13 (by omega) hk
 exact r16_alone12 p h w 14 (by omega) hk
end
end Go.Proofs.YtkghejaimhoboaaGreatDoor
