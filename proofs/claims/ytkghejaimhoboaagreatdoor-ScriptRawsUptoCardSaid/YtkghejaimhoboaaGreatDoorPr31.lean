/- Parts of the proof of ScriptRaws. -/
import Derived.Test.YtkghejaimhoboaaGreatDoorPr30
import Derived.Test.YtkghejaimhoboaaGreatDoorPr27
set_option linter.unusedSimpArgs false
set_option linter.unusedVariables false
set_option maxRecDepth 100000
set_option maxHeartbeats 8000000
namespace Go.Proofs.YtkghejaimhoboaaGreatDoor
open Go.RowKit Go.Shelf Go.Proofs.Tryz
section
attribute [local go_sem] Oper.semAt_some
theorem build_con(p:Pk)(W:World):(Instr.build 52 #[(7,.string ⟨p.client.toArray⟩),(8,.bool p.clean),(9,.int .i64 p.keep),(10,.bool p.hasWill),(11,.agg #[.string ⟨p.will.topic.toArray⟩,.string ⟨p.will.body.toArray⟩,.int .i64 p.will.qos,.bool p.will.retain]),(12,.bool p.hasUser),(13,.bool p.hasPass),(14,.string ⟨p.user.toArray⟩),(15,.string ⟨p.pass.toArray⟩)]).run prog W=.ok (.agg (({zPk 0 with client:=p.client,clean:=p.clean,keep:=p.keep,hasWill:=p.hasWill,will:=p.will,hasUser:=p.hasUser,hasPass:=p.hasPass,user:=p.user,pass:=p.pass}:Pk).cells h3Z).toArray) W:=by kernel_rfl
theorem pk_hasCon(p:Pk)(h:H3)(w:World):Calls prog 200 #[.agg (p.cells h).toArray] w fun e w'=>e=.returned (.agg (({zPk 0 with client:=p.client,clean:=p.clean,keep:=p.keep,hasWill:=p.hasWill,hasUser:=p.hasUser,hasPass:=p.hasPass,user:=p.user,pass:=p.pass,will:=p.will}:Pk).cells h3Z).toArray)/\Below w.heap.size w w':=by
 obtain⟨cs,hcs⟩:=gen_of ((p.cells h).toArray);have hB:Blk (w.alloc (.cells cs 52)) w.heap.size cs 52:=Blk.new _ _ _;have hB2:Blk ((w.alloc (.cells cs 52)).alloc (.cells zPc 52)) w.heap.size cs 52:=hB.alloc _;have hZ:Blk ((w.alloc (.cells cs 52)).alloc (.cells zPc 52)) (w.heap.size+1) zPc 52:=by have:=Blk.new (w.alloc (.cells cs 52)) zPc 52;simpa using this
 have hb2:Below w.heap.size w ((w.alloc (.cells cs 52)).alloc (.cells zPc 52)):=(bel_refl.alloc nat_le_rfl _).alloc (by simp) _;have k7:∀o,((w.alloc (.cells cs 52)).alloc o).cell? ⟨w.heap.size,7,none⟩=some (.string ⟨p.client.toArray⟩):=fun o=>by rw[(hB.alloc o).cell,<-hcs];rfl
 have k8:∀o,((w.alloc (.cells cs 52)).alloc o).cell? ⟨w.heap.size,8,none⟩=some (.bool p.clean):=fun o=>by rw[(hB.alloc o).cell,<-hcs];rfl
 have k9:∀o,((w.alloc (.cells cs 52)).alloc o).cell? ⟨w.heap.size,9,none⟩=some (.int .i64 p.keep):=fun o=>by rw[(hB.alloc o).cell,<-hcs];rfl
 have k10:∀o,((w.alloc (.cells cs 52)).alloc o).cell? ⟨w.heap.size,10,none⟩=some (.bool p.hasWill):=fun o=>by rw[(hB.alloc o).cell,<-hcs];rfl
 have k15:∀o,((w.alloc (.cells cs 52)).alloc o).cell? ⟨w.heap.size,15,none⟩=some (.bool p.hasUser):=fun o=>by rw[(hB.alloc o).cell,<-hcs];rfl
 have k16:∀o,((w.alloc (.cells cs 52)).alloc o).cell? ⟨w.heap.size,16,none⟩=some (.bool p.hasPass):=fun o=>by rw[(hB.alloc o).cell,<-hcs];rfl
 have k17:∀o,((w.alloc (.cells cs 52)).alloc o).cell? ⟨w.heap.size,17,none⟩=some (.string ⟨p.user.toArray⟩):=fun o=>by rw[(hB.alloc o).cell,<-hcs];rfl
 have k18:∀o,((w.alloc (.cells cs 52)).alloc o).cell? ⟨w.heap.size,18,none⟩=some (.string ⟨p.pass.toArray⟩):=fun o=>by rw[(hB.alloc o).cell,<-hcs];rfl
 have hwl:=hB2.mid ((p.cells h).take 11) [.string ⟨p.will.topic.toArray⟩,.string ⟨p.will.body.toArray⟩,.int .i64 p.will.qos,.bool p.will.retain] ((p.cells h).drop 15) (by rw[<-hcs];rfl);have hone:=hid (Pk.one ({zPk 0 with client:=p.client,clean:=p.clean,keep:=p.keep,hasWill:=p.hasWill,hasUser:=p.hasUser,hasPass:=p.hasPass,user:=p.user,pass:=p.pass,will:=p.will}) (h3Z));rw[hcs];clear hcs hB hB2;replace hb2:=hid hb2;unfold zPc at*
 go_enter func200,ntmps200;go_wp2_with (first
  | (refine wS 52 24 rfl (w.heap.size+1) _ _ rfl rfl hZ rfl rfl hone.out ?_;intro w2 hw2 hr2)
  | (refine wLm 47 rfl rfl hwl underlying47 ?_)
  | (refine wBuild 52 rfl #[(7,.string ⟨p.client.toArray⟩),(8,.bool p.clean),(9,.int .i64 p.keep),(10,.bool p.hasWill),(11,.agg #[.string ⟨p.will.topic.toArray⟩,.string ⟨p.will.body.toArray⟩,.int .i64 p.will.qos,.bool p.will.retain]),(12,.bool p.hasUser),(13,.bool p.hasPass),(14,.string ⟨p.user.toArray⟩),(15,.string ⟨p.pass.toArray⟩)] rfl _ (build_con p) ?_))
 refine bodyPost_ret (results_cell1 results200 rfl (run_loadVar_blk hw2 52 underlying52 rfl (by kernel_rfl))) rfl ⟨rfl,hb2.trans (hr2.below (by simp;omega) (by simp))⟩
theorem pk_hasPub(p:Pk)(h:H3)(w:World):Calls prog 205 #[.agg (p.cells h).toArray] w fun e w'=>e=.returned (.agg (({zPk 0 with topic:=p.topic,body:=p.body,qos:=p.qos,retain:=p.retain,id:=p.id,dup:=p.dup}:Pk).cells h3Z).toArray)/\Below w.heap.size w w':=by
 obtain⟨cs,hcs⟩:=gen_of ((p.cells h).toArray);have hB:Blk (w.alloc (.cells cs 52)) w.heap.size cs 52:=Blk.new _ _ _;have hB2:Blk ((w.alloc (.cells cs 52)).alloc (.cells zPc 52)) w.heap.size cs 52:=hB.alloc _;have hZ:Blk ((w.alloc (.cells cs 52)).alloc (.cells zPc 52)) (w.heap.size+1) zPc 52:=by have:=Blk.new (w.alloc (.cells cs 52)) zPc 52;simpa using this
 have hb2:Below w.heap.size w ((w.alloc (.cells cs 52)).alloc (.cells zPc 52)):=(bel_refl.alloc nat_le_rfl _).alloc (by simp) _;have k4:∀o,((w.alloc (.cells cs 52)).alloc o).cell? ⟨w.heap.size,4,none⟩=some (.string ⟨p.topic.toArray⟩):=fun o=>by rw[(hB.alloc o).cell,<-hcs];rfl
 have k5:∀o,((w.alloc (.cells cs 52)).alloc o).cell? ⟨w.heap.size,5,none⟩=some (.string ⟨p.body.toArray⟩):=fun o=>by rw[(hB.alloc o).cell,<-hcs];rfl
 have k3:∀o,((w.alloc (.cells cs 52)).alloc o).cell? ⟨w.heap.size,3,none⟩=some (.int .i64 p.qos):=fun o=>by rw[(hB.alloc o).cell,<-hcs];rfl
 have k2:∀o,((w.alloc (.cells cs 52)).alloc o).cell? ⟨w.heap.size,2,none⟩=some (.bool p.retain):=fun o=>by rw[(hB.alloc o).cell,<-hcs];rfl
 have k6:∀o,((w.alloc (.cells cs 52)).alloc o).cell? ⟨w.heap.size,6,none⟩=some (.int .i64 p.id):=fun o=>by rw[(hB.alloc o).cell,<-hcs];rfl
 have k1:∀o,((w.alloc (.cells cs 52)).alloc o).cell? ⟨w.heap.size,1,none⟩=some (.bool p.dup):=fun o=>by rw[(hB.alloc o).cell,<-hcs];rfl
 have hone:=hid (Pk.one ({zPk 0 with topic:=p.topic,body:=p.body,qos:=p.qos,retain:=p.retain,id:=p.id,dup:=p.dup}) (h3Z));rw[hcs];clear hcs hB hB2;replace hb2:=hid hb2;unfold zPc at*
 go_enter func205,ntmps205;go_wp2_with (first
  | (refine wS 52 24 rfl (w.heap.size+1) _ _ rfl rfl hZ rfl rfl hone.out ?_;intro w2 hw2 hr2))
 refine bodyPost_ret (results_cell1 results205 rfl (run_loadVar_blk hw2 52 underlying52 rfl (by kernel_rfl))) rfl ⟨rfl,hb2.trans (hr2.below (by simp;omega) (by simp))⟩
theorem pk_hasEmp(p:Pk)(h:H3)(w:World):Calls prog 121 #[.agg (p.cells h).toArray] w fun e w'=>e=.returned (.agg ((zPk 0:Pk).cells h3Z).toArray)/\Below w.heap.size w w':=by
 obtain⟨cs,hcs⟩:=gen_of ((p.cells h).toArray);have hB:Blk (w.alloc (.cells cs 52)) w.heap.size cs 52:=Blk.new _ _ _;have hB2:Blk ((w.alloc (.cells cs 52)).alloc (.cells zPc 52)) w.heap.size cs 52:=hB.alloc _;have hZ:Blk ((w.alloc (.cells cs 52)).alloc (.cells zPc 52)) (w.heap.size+1) zPc 52:=by have:=Blk.new (w.alloc (.cells cs 52)) zPc 52;simpa using this
 have hb2:Below w.heap.size w ((w.alloc (.cells cs 52)).alloc (.cells zPc 52)):=(bel_refl.alloc nat_le_rfl _).alloc (by simp) _;have hone:=hid (Pk.one (zPk 0) (h3Z));rw[hcs];clear hcs hB hB2;replace hb2:=hid hb2;unfold zPc at*
 go_enter func121,ntmps121;go_wp2_with (first
  | (refine wS 52 24 rfl (w.heap.size+1) _ _ rfl rfl hZ rfl rfl hone.out ?_;intro w2 hw2 hr2))
 refine bodyPost_ret (results_cell1 results121 rfl (run_loadVar_blk hw2 52 underlying52 rfl (by kernel_rfl))) rfl ⟨rfl,hb2.trans (hr2.below (by simp;omega) (by simp))⟩
theorem pk_hasAck(p:Pk)(h:H3)(w:World):Calls prog 125 #[.agg (p.cells h).toArray] w fun e w'=>e=.returned (.agg (({zPk 0 with code:=p.code,present:=p.present}:Pk).cells h3Z).toArray)/\Below w.heap.size w w':=by
 obtain⟨cs,hcs⟩:=gen_of ((p.cells h).toArray);have hB:Blk (w.alloc (.cells cs 52)) w.heap.size cs 52:=Blk.new _ _ _;have hB2:Blk ((w.alloc (.cells cs 52)).alloc (.cells zPc 52)) w.heap.size cs 52:=hB.alloc _;have hZ:Blk ((w.alloc (.cells cs 52)).alloc (.cells zPc 52)) (w.heap.size+1) zPc 52:=by have:=Blk.new (w.alloc (.cells cs 52)) zPc 52;simpa using this
 have hb2:Below w.heap.size w ((w.alloc (.cells cs 52)).alloc (.cells zPc 52)):=(bel_refl.alloc nat_le_rfl _).alloc (by simp) _;have k20:∀o,((w.alloc (.cells cs 52)).alloc o).cell? ⟨w.heap.size,20,none⟩=some (.int .i64 p.code):=fun o=>by rw[(hB.alloc o).cell,<-hcs];rfl
 have k19:∀o,((w.alloc (.cells cs 52)).alloc o).cell? ⟨w.heap.size,19,none⟩=some (.bool p.present):=fun o=>by rw[(hB.alloc o).cell,<-hcs];rfl
 have hone:=hid (Pk.one ({zPk 0 with code:=p.code,present:=p.present}) (h3Z));rw[hcs];clear hcs hB hB2;replace hb2:=hid hb2;unfold zPc at*
 go_enter func125,ntmps125;go_wp2_with (first
  | (refine wS 52 24 rfl (w.heap.size+1) _ _ rfl rfl hZ rfl rfl hone.out ?_;intro w2 hw2 hr2))
 refine bodyPost_ret (results_cell1 results125 rfl (run_loadVar_blk hw2 52 underlying52 rfl (by kernel_rfl))) rfl ⟨rfl,hb2.trans (hr2.below (by simp;omega) (by simp))⟩
theorem pk_hasAns(p:Pk)(h:H3)(w:World):Calls prog 211 #[.agg (p.cells h).toArray] w fun e w'=>e=.returned (.agg ((zPk 0:Pk).cells h3Z).toArray)/\Below w.heap.size w w':=by
 obtain⟨cs,hcs⟩:=gen_of ((p.cells h).toArray);have hB:Blk (w.alloc (.cells cs 52)) w.heap.size cs 52:=Blk.new _ _ _;have hB2:Blk ((w.alloc (.cells cs 52)).alloc (.cells zPc 52)) w.heap.size cs 52:=hB.alloc _;have hZ:Blk ((w.alloc (.cells cs 52)).alloc (.cells zPc 52)) (w.heap.size+1) zPc 52:=by have:=Blk.new (w.alloc (.cells cs 52)) zPc 52;simpa using this
 have hb2:Below w.heap.size w ((w.alloc (.cells cs 52)).alloc (.cells zPc 52)):=(bel_refl.alloc nat_le_rfl _).alloc (by simp) _;have hone:=hid (Pk.one (zPk 0) (h3Z));rw[hcs];clear hcs hB hB2;replace hb2:=hid hb2;unfold zPc at*
 go_enter func211,ntmps211;go_wp2_with (first
  | (refine wS 52 24 rfl (w.heap.size+1) _ _ rfl rfl hZ rfl rfl hone.out ?_;intro w2 hw2 hr2))
 refine bodyPost_ret (results_cell1 results211 rfl (run_loadVar_blk hw2 52 underlying52 rfl (by kernel_rfl))) rfl ⟨rfl,hb2.trans (hr2.below (by simp;omega) (by simp))⟩
theorem pk_hasSub(p:Pk)(h:H3)(w:World):Calls prog 131 #[.agg (p.cells h).toArray] w fun e w'=>e=.returned (.agg (({zPk 0 with wants:=p.wants}:Pk).cells ⟨h.w,hdZ,hdZ⟩).toArray)/\Below w.heap.size w w':=by
 obtain⟨cs,hcs⟩:=gen_of ((p.cells h).toArray);have hB:Blk (w.alloc (.cells cs 52)) w.heap.size cs 52:=Blk.new _ _ _;have hB2:Blk ((w.alloc (.cells cs 52)).alloc (.cells zPc 52)) w.heap.size cs 52:=hB.alloc _;have hZ:Blk ((w.alloc (.cells cs 52)).alloc (.cells zPc 52)) (w.heap.size+1) zPc 52:=by have:=Blk.new (w.alloc (.cells cs 52)) zPc 52;simpa using this
 have hb2:Below w.heap.size w ((w.alloc (.cells cs 52)).alloc (.cells zPc 52)):=(bel_refl.alloc nat_le_rfl _).alloc (by simp) _;have k21:∀o,((w.alloc (.cells cs 52)).alloc o).cell? ⟨w.heap.size,21,none⟩=some (.slice h.w.a h.w.n h.w.c):=fun o=>by rw[(hB.alloc o).cell,<-hcs];rfl
 have hone:=hid (Pk.one ({zPk 0 with wants:=p.wants}) (⟨h.w,hdZ,hdZ⟩));rw[hcs];clear hcs hB hB2;replace hb2:=hid hb2;unfold zPc at*
 go_enter func131,ntmps131;go_wp2_with (first
  | (refine wS 52 24 rfl (w.heap.size+1) _ _ rfl rfl hZ rfl rfl hone.out ?_;intro w2 hw2 hr2))
 refine bodyPost_ret (results_cell1 results131 rfl (run_loadVar_blk hw2 52 underlying52 rfl (by kernel_rfl))) rfl ⟨rfl,hb2.trans (hr2.below (by simp;omega) (by simp))⟩
theorem pk_hasSua(p:Pk)(h:H3)(w:World):Calls prog 142 #[.agg (p.cells h).toArray] w fun e w'=>e=.returned (.agg (({zPk 0 with codes:=p.codes}:Pk).cells ⟨hdZ,h.c,hdZ⟩).toArray)/\Below w.heap.size w w':=by
 obtain⟨cs,hcs⟩:=gen_of ((p.cells h).toArray);have hB:Blk (w.alloc (.cells cs 52)) w.heap.size cs 52:=Blk.new _ _ _;have hB2:Blk ((w.alloc (.cells cs 52)).alloc (.cells zPc 52)) w.heap.size cs 52:=hB.alloc _;have hZ:Blk ((w.alloc (.cells cs 52)).alloc (.cells zPc 52)) (w.heap.size+1) zPc 52:=by have:=Blk.new (w.alloc (.cells cs 52)) zPc 52;simpa using this
 have hb2:Below w.heap.size w ((w.alloc (.cells cs 52)).alloc (.cells zPc 52)):=(bel_refl.alloc nat_le_rfl _).alloc (by simp) _;have k22:∀o,((w.alloc (.cells cs 52)).alloc o).cell? ⟨w.heap.size,22,none⟩=some (.slice h.c.a h.c.n h.c.c):=fun o=>by rw[(hB.alloc o).cell,<-hcs];rfl
 have hone:=hid (Pk.one ({zPk 0 with codes:=p.codes}) (⟨hdZ,h.c,hdZ⟩));rw[hcs];clear hcs hB hB2;replace hb2:=hid hb2;unfold zPc at*
 go_enter func142,ntmps142;go_wp2_with (first
  | (refine wS 52 24 rfl (w.heap.size+1) _ _ rfl rfl hZ rfl rfl hone.out ?_;intro w2 hw2 hr2))
 refine bodyPost_ret (results_cell1 results142 rfl (run_loadVar_blk hw2 52 underlying52 rfl (by kernel_rfl))) rfl ⟨rfl,hb2.trans (hr2.below (by simp;omega) (by simp))⟩
theorem pk_hasUns(p:Pk)(h:H3)(w:World):Calls prog 150 #[.agg (p.cells h).toArray] w fun e w'=>e=.returned (.agg (({zPk 0 with filters:=p.filters}:Pk).cells ⟨hdZ,hdZ,h.f⟩).toArray)/\Below w.heap.size w w':=by
 obtain⟨cs,hcs⟩:=gen_of ((p.cells h).toArray);have hB:Blk (w.alloc (.cells cs 52)) w.heap.size cs 52:=Blk.new _ _ _;have hB2:Blk ((w.alloc (.cells cs 52)).alloc (.cells zPc 52)) w.heap.size cs 52:=hB.alloc _;have hZ:Blk ((w.alloc (.cells cs 52)).alloc (.cells zPc 52)) (w.heap.size+1) zPc 52:=by have:=Blk.new (w.alloc (.cells cs 52)) zPc 52;simpa using this
 have hb2:Below w.heap.size w ((w.alloc (.cells cs 52)).alloc (.cells zPc 52)):=(bel_refl.alloc nat_le_rfl _).alloc (by simp) _;have k23:∀o,((w.alloc (.cells cs 52)).alloc o).cell? ⟨w.heap.size,23,none⟩=some (.slice h.f.a h.f.n h.f.c):=fun o=>by rw[(hB.alloc o).cell,<-hcs];rfl
 have hone:=hid (Pk.one ({zPk 0 with filters:=p.filters}) (⟨hdZ,hdZ,h.f⟩));rw[hcs];clear hcs hB hB2;replace hb2:=hid hb2;unfold zPc at*
 go_enter func150,ntmps150;go_wp2_with (first
  | (refine wS 52 24 rfl (w.heap.size+1) _ _ rfl rfl hZ rfl rfl hone.out ?_;intro w2 hw2 hr2))
 refine bodyPost_ret (results_cell1 results150 rfl (run_loadVar_blk hw2 52 underlying52 rfl (by kernel_rfl))) rfl ⟨rfl,hb2.trans (hr2.below (by simp;omega) (by simp))⟩
theorem pk_hasList(f:FuncId)(b:Nat)(p:Pk)(h:H3)(y:Pk)(hy:H3)(w:World)(hf:fnC f)(hb:Boxed w (b+1) 145 (fnV f #[]))(hc:∀W,Calls prog f #[.agg (p.cells h).toArray] W fun e w'=>e=.returned (.agg (y.cells hy).toArray)/\Below W.heap.size W w'):
  Calls prog 184 #[.agg (p.cells h).toArray,.pointer (some ⟨b+1,0,none⟩)] w fun e w'=>e=.returned (.agg (({y with id:=p.id}:Pk).cells hy).toArray)/\Below w.heap.size w w':=by
 obtain⟨cs,hcs⟩:=gen_of ((p.cells h).toArray);have hB:Blk (w.alloc (.cells cs 52)) w.heap.size cs 52:=Blk.new _ _ _;have hb1:Below w.heap.size w (w.alloc (.cells cs 52)):=bel_refl.alloc nat_le_rfl _;rw[hcs]at hc ⊢;obtain⟨W0,hW0⟩:=gen_of (w.alloc (.cells cs 52));have s0:W0.heap.size=w.heap.size+1:=by rw[<-hW0];simp
 rw[hW0]at hB hb1;obtain⟨W1,hW1⟩:=gen_of (W0.alloc (.cells zPc 52));have s1:W1.heap.size=w.heap.size+2:=by rw[<-hW1];simp;omega
 have hb2:Below w.heap.size w W1:=by rw[<-hW1];exact hb1.alloc hb1.size _
 have x1:Blk W1 w.heap.size cs 52:=by rw[<-hW1];exact hB.alloc _
 have z1:Blk W1 (w.heap.size+1) zPc 52:=by have:=Blk.new W0 zPc 52;rw[hW1,s0]at this;exact this
 have k0:W1.cell? ⟨b+1,0,none⟩=some (fnV f #[]):=(boxed_below hb hb2).cell;have ic:(prog.info? 52).map (·.size)=some cs.size:=by rw[<-hcs];exact(by kernel_rfl:(prog.info? 52).map (·.size)=some 24)
 have CC:=hid (hc W1);have kid:Hid (∀W,Blk W w.heap.size cs 52->W.cell? ⟨w.heap.size,6,none⟩=some (.int .i64 p.id)):=hid fun W h=>by rw[h.cell,<-hcs];rfl
 obtain⟨yc,hyc⟩:=gen_of ((y.cells hy).toArray);have hone:Hid (∀v∈yc.toList,v.oneCell'=true):=hid (by rw[<-hyc];exact Pk.one y hy);have hys:Hid (yc.size=24):=hid (by rw[<-hyc];rfl);have hset:Hid (yc.setIfInBounds 6 (.int .i64 p.id)=(({y with id:=p.id}:Pk).cells hy).toArray):=hid (by rw[<-hyc];rfl);obtain⟨yd,hyd⟩:∃yd,(({y with id:=p.id}:Pk).cells hy).toArray=yd:=⟨_,rfl⟩;have hyo:Hid (∀v∈yd.toList,v.oneCell'=true):=hid (by rw[<-hyd];exact Pk.one _ hy);have hyz:Hid (yd.size=24):=hid (by rw[<-hyd];rfl);rw[hyd]at hset ⊢;rw[hyc]at CC;replace ic:=hid ic;replace hb2:=hid hb2;replace z1:=hid z1;unfold fnV at k0;unfold fnC at hf;replace hW1:W0.alloc (.cells #[.int .i64 0,.bool false,.bool false,.int .i64 0,.string ⟨#[]⟩,.string ⟨#[]⟩,.int .i64 0,.string ⟨#[]⟩,.bool false,.int .i64 0,.bool false,.string ⟨#[]⟩,.string ⟨#[]⟩,.int .i64 0,.bool false,.bool false,.bool false,.string ⟨#[]⟩,.string ⟨#[]⟩,.bool false,.int .i64 0,.slice none 0 0,.slice none 0 0,.slice none 0 0] 52)=W1:=hW1;clear hcs hyc hyd hc hB hb1 hb;go_enter func184,ntmps184;have tok:=hid trivial;go_upto_region 1 with fail;go_wp2_with (clear tok;refine wL 52 rfl rfl x1 underlying52 ?_ rfl rfl ic.out)
 refine CC.mono ?_;rintro e w2 ⟨rfl,hb3⟩;have x2:=hid (x1.below hb3);have z2:=hid (z1.below hb3);have HB:=hid (hb2.trans (hb3.mono hb2.size));have hs2:=hb3.size;clear x1 k0 hb3;go_upto_region 2 with(refine wS 52 24 rfl _ _ yc rfl rfl (Blk.new _ _ _) hys.out (by rfl) hone.out ?_;intro w3 hw3 hr3);have b3:Below w2.heap.size w2 w3:=(bel_refl.alloc nat_le_rfl _).trans (hr3.below (by simp) (by simp));have hs3:w2.heap.size+1<=w3.heap.size:=by have:=hr3.size;simp at this;omega
 have x3:=x2.below b3;have z3:=z2.below b3;have HB3:=hid (HB.trans (b3.mono HB.size));have kc:=kid _ x3;have Z3:=hid z3;clear hr3 b3 x3 z3;try simp only[PT]
 go_upto_region 3 with(refine wpList_store_cell rfl 2 52 _ _ rfl (fun w=>by kernel_rfl) w2.heap.size 6 yc (.int .i64 p.id) rfl rfl hw3 (by rw[hys];decide) rfl rfl ?_;intro w4 hw4 hr4)
 rw[hset]at hw4;have z4:=hid (Z3.keepW hr4 (by simp;omega));have HB4:=hid (HB3.trans (hr4.below HB3.size (by simp;omega)));have id2:Hid ((prog.info? 52).map (·.size)=some yd.size):=hid (by rw[hyz];exact(by kernel_rfl:(prog.info? 52).map (·.size)=some 24));clear hr4 hw3 kc;try simp only[PT]
 go_wp2_with (first
  | (refine wL 52 rfl rfl hw4 underlying52 ?_ rfl rfl id2.out)
  | (refine wS 52 24 rfl (w.heap.size+1) _ yd rfl rfl z4.out hyz.out rfl hyo.out ?_;intro w5 hw5 hr5))
 refine bodyPost_ret (results_cell1 results184 rfl (run_loadVar_blk hw5 52 underlying52 rfl id2.out)) rfl ?_;exact⟨rfl,HB4.trans (hr5.below HB4.size (by simp))⟩
structure PRd (k:Int)(f B p:Nat)(l:List UInt8)(w:World)(e:Ending)(w':World):Prop where
 wrote:Wrote [p] w w'
 out:(readP k f l=none/\e=.panicked givenP)\/∃(y:Pk)(h:H3)(r:List UInt8),readP k f l=some ({y with kind:=k},r)/\e=.returned (.agg (y.cells h).toArray)/\Rd w' B p r/\∀M,(∀b∈M,b<w.heap.size)->PkN w' y h M
theorem PkN.zero(w:World)(y:Pk)(h:y.wants=[]/\y.codes=[]/\y.filters=[])(M:List Nat):PkN w y h3Z M:=by
 obtain⟨a,b,c⟩:=h;refine⟨?_,?_,?_⟩
 ·rw[a];exact LsN.nil w M
 ·rw[b];exact LsN.nil w M
 rw[c];exact LsN.nil w M
theorem readP_0{k:Int}(hk:12<=k)(f:Nat)(l:List UInt8):readP k f l=some (zPk k,l):=by unfold readP;rw[if_neg (by omega),if_neg (by omega),if_neg (by omega),if_neg (by omega),if_neg (by omega),if_neg (by omega),if_neg (by omega)]
theorem pk_readEmp(k:Int)(hk:12<=k)(f:Nat){w:World}{B p:Nat}{l:List UInt8}(h:Rd w B p l):Calls prog 122 #[.agg #[.pointer (some ⟨p,0,none⟩)],.int .i64 f] w (PRd k f B p l w):=by
 obtain⟨W0,hW0⟩:=gen_of (w.alloc (.cells #[.pointer (some ⟨p,0,none⟩)] 161));have s0:W0.heap.size=w.heap.size+1:=by rw[<-hW0];simp
 obtain⟨W1,hW1⟩:=gen_of (W0.alloc (.cells #[.int .i64 0,.bool false,.bool false,.int .i64 0,.string ⟨#[]⟩,.string ⟨#[]⟩,.int .i64 0,.string ⟨#[]⟩,.bool false,.int .i64 0,.bool false,.string ⟨#[]⟩,.string ⟨#[]⟩,.int .i64 0,.bool false,.bool false,.bool false,.string ⟨#[]⟩,.string ⟨#[]⟩,.bool false,.int .i64 0,.slice none 0 0,.slice none 0 0,.slice none 0 0] 52));have s1:W1.heap.size=w.heap.size+2:=by rw[<-hW1];simp;omega
 have b0:Below w.heap.size w W0:=by rw[<-hW0];exact bel_refl.alloc nat_le_rfl _
 have b1:Below w.heap.size w W1:=by rw[<-hW1];exact b0.alloc b0.size _
 have x1:Blk W1 w.heap.size #[.pointer (some ⟨p,0,none⟩)] 161:=by rw[<-hW1,<-hW0];exact(Blk.new _ _ _).alloc _
 have z1:Blk W1 (w.heap.size+1) zPc 52:=by have:=Blk.new W0 zPc 52;rw[show W0.alloc (.cells zPc 52)=W1 from hW1,s0]at this;exact this
 have R1:=h.below b1;have K1:Wrote [p] w W1:=Wrote.of_below b1;have hpb:=h.lt;have hbs:=h.base;clear h b0;have hone:=hid (Pk.one (zPk 0) h3Z);replace b1:=hid b1;replace x1:=hid x1;replace R1:=hid R1;replace K1:=hid K1;go_enter func122,ntmps122;go_wp2_with (refine wS 52 24 rfl (w.heap.size+1) _ ((zPk 0).cells h3Z).toArray rfl rfl z1 rfl rfl hone.out ?_;intro w2 hw2 hr2)
 refine bodyPost_ret (results_cell1 results122 rfl (run_loadVar_blk hw2 52 underlying52 rfl (by kernel_rfl))) rfl ?_;have b2:=b1.trans (hr2.below b1.size (by simp));exact⟨Wrote.of_below b2,.inr ⟨zPk 0,h3Z,l,readP_0 hk f l,rfl,R1.wrote hr2 (by simp;omega),fun M _=>PkN.zero _ _ ⟨rfl,rfl,rfl⟩ M⟩⟩
theorem readP_2(f:Nat)(l:List UInt8):readP 2 f l=readA l:=by unfold readP;rw[if_neg (by decide),if_pos rfl]
theorem pk_readAck(f:Nat){w:World}{B p:Nat}{l:List UInt8}(h:Rd w B p l):Calls prog 128 #[.agg #[.pointer (some ⟨p,0,none⟩)],.int .i64 f] w (PRd 2 f B p l w):=by
 have CM:=hid pk_must;obtain⟨W0,hW0⟩:=gen_of (w.alloc (.cells #[.pointer (some ⟨p,0,none⟩)] 161));have s0:W0.heap.size=w.heap.size+1:=by rw[<-hW0];simp
 obtain⟨W1,hW1⟩:=gen_of (W0.alloc (.cells #[.int .i64 0,.bool false,.bool false,.int .i64 0,.string ⟨#[]⟩,.string ⟨#[]⟩,.int .i64 0,.string ⟨#[]⟩,.bool false,.int .i64 0,.bool false,.string ⟨#[]⟩,.string ⟨#[]⟩,.int .i64 0,.bool false,.bool false,.bool false,.string ⟨#[]⟩,.string ⟨#[]⟩,.bool false,.int .i64 0,.slice none 0 0,.slice none 0 0,.slice none 0 0] 52));have s1:W1.heap.size=w.heap.size+2:=by rw[<-hW1];simp;omega
 have b0:Below w.heap.size w W0:=by rw[<-hW0];exact bel_refl.alloc nat_le_rfl _
 have b1:Below w.heap.size w W1:=by rw[<-hW1];exact b0.alloc b0.size _
 have x1:Blk W1 w.heap.size #[.pointer (some ⟨p,0,none⟩)] 161:=by rw[<-hW1,<-hW0];exact(Blk.new _ _ _).alloc _
 have z1:Blk W1 (w.heap.size+1) zPc 52:=by have:=Blk.new W0 zPc 52;rw[show W0.alloc (.cells zPc 52)=W1 from hW1,s0]at this;exact this
 have R1:=h.below b1;have K1:Wrote [p] w W1:=Wrote.of_below b1;have hpb:=h.lt;have hbs:=h.base;clear h b0;have CX:=hid (pk_number R1 1 (by decide) (by decide));have Z1:=hid z1;have B1:=hid b1;replace K1:=hid K1;clear z1 R1 b1;go_enter func128,ntmps128;go_wp2_with (refine wL 161 rfl rfl x1 underlying161 ?_)
 refine CX.mono ?_;rintro e w2 (⟨hno,rfl,hw2⟩ | ⟨⟨m,r⟩,hx,rfl,R2,hw2⟩)
 ·refine⟨rfl,K1.trans hw2,.inl ⟨?_,rfl⟩⟩;rw[readP_2];unfold readA;rw[hno];rfl
 dsimp only at R2 ⊢;have x2:=x1.keepW hw2 (by simp;omega);have Z2:=hid (Z1.keepW hw2 (by simp;omega));have K2:=hid (K1.trans hw2);have hs2:=hid hw2.size;have CY:=hid (pk_number R2 1 (by decide) (by decide));have hx:=hid hx;clear hw2 R2 x1;obtain⟨z,hz⟩:=gen_of ((m:Int):Int);rw[hz];by_cases h1:z<=1
 ·have d:decide (z<=1)=true:=decide_eq_true h1;replace hz:=hid hz;go_wp2_with (first
   | (go_at_call 95;refine(CM _ _).mono ?_;rintro e w9 ⟨rfl,rfl⟩)
   | (refine wL 161 rfl rfl x2 underlying161 ?_))
  refine CY.mono ?_;rintro e w3 (⟨hno,rfl,hw3⟩ | ⟨⟨c,r2⟩,hy,rfl,R3,hw3⟩)
  ·refine⟨rfl,K2.trans hw3,.inl ⟨?_,rfl⟩⟩;rw[readP_2];unfold readA;rw[hx.out,Option.bind_some];dsimp only;rw[if_neg (by have:=hz.out;omega),hno];rfl
  dsimp only at R3 ⊢;have z3:=Z2.keepW hw3 (by simp;omega);have K3:=hid (K2.trans hw3);have hone:=hid (Pk.one {zPk 0 with present:=z==1,code:=(c:Int)} h3Z);have R3:=hid R3;have hy:=hid hy;have hs3:=hid (show w.heap.size+2<=w3.heap.size by have:=hw3.size;have:=hs2.out;omega);clear hw3 x2;go_wp2_with (refine wS 52 24 rfl (w.heap.size+1) _ (({zPk 0 with present:=z==1,code:=(c:Int)}:Pk).cells h3Z).toArray rfl rfl z3 rfl rfl hone.out ?_;intro w4 hw4 hr4);refine bodyPost_ret (results_cell1 results128 rfl (run_loadVar_blk hw4 52 underlying52 rfl (by kernel_rfl))) rfl ?_;refine⟨K3.andNew hr4 (by simp),.inr ⟨{zPk 0 with present:=z==1,code:=(c:Int)},h3Z,r2,?_,rfl,R3.wrote hr4 (by simp;omega),fun M _=>PkN.zero _ _ ⟨rfl,rfl,rfl⟩ M⟩⟩;rw[readP_2];unfold readA;rw[hx.out,Option.bind_some];dsimp only;rw[if_neg (by have:=hz.out;omega),hy.out,Option.bind_some];have e1:decide (m=1)=(z==1):=by
   have:=hz.out;by_cases hm:m=1
   ·subst hm;subst this;rfl
   rw[decide_eq_false hm];symm;rw[beq_eq_false_iff_ne];omega
  rw[e1];rfl
 have d:decide (z<=1)=false:=decide_eq_false h1;replace hz:=hid hz;go_wp2_with (go_at_call 95;refine(CM _ _).mono ?_;rintro e w9 ⟨rfl,rfl⟩);refine⟨rfl,K2.out,.inl ⟨?_,rfl⟩⟩;rw[readP_2];unfold readA;rw[hx.out,Option.bind_some];dsimp only;rw[if_pos (by have:=hz.out;omega)]
theorem and_8:∀f:Nat,f<16->decide (0<bits .and .i64 (f:Int) 8)=has f 8:=by decide
theorem and_1:∀f:Nat,f<16->decide (0<bits .and .i64 (f:Int) 1)=has f 1:=by decide
theorem and_3:∀f:Nat,f<16->bits .and .i64 ((f:Int) / 2) 3=((f / 2%4:Nat):Int):=by decide
theorem readP_3(f:Nat)(l:List UInt8):readP 3 f l=readPub f l:=by unfold readP;rw[if_neg (by decide),if_neg (by decide),if_pos rfl]
theorem pk_readPub(f:Nat)(hf:f<16){w:World}{B p:Nat}{l:List UInt8}(h:Rd w B p l):Calls prog 209 #[.agg #[.pointer (some ⟨p,0,none⟩)],.int .i64 f] w (PRd 3 f B p l w):=by
 obtain⟨W0,hW0⟩:=gen_of (w.alloc (.cells #[.pointer (some ⟨p,0,none⟩)] 161));have s0:W0.heap.size=w.heap.size+1:=by rw[<-hW0];simp
 obtain⟨W1,hW1⟩:=gen_of (W0.alloc (.cells #[.int .i64 0,.bool false,.bool false,.int .i64 0,.string ⟨#[]⟩,.string ⟨#[]⟩,.int .i64 0,.string ⟨#[]⟩,.bool false,.int .i64 0,.bool false,.string ⟨#[]⟩,.string ⟨#[]⟩,.int .i64 0,.bool false,.bool false,.bool false,.string ⟨#[]⟩,.string ⟨#[]⟩,.bool false,.int .i64 0,.slice none 0 0,.slice none 0 0,.slice none 0 0] 52));have s1:W1.heap.size=w.heap.size+2:=by rw[<-hW1];simp;omega
 have b0:Below w.heap.size w W0:=by rw[<-hW0];exact bel_refl.alloc nat_le_rfl _
 have b1:Below w.heap.size w W1:=by rw[<-hW1];exact b0.alloc b0.size _
 have x1:Blk W1 w.heap.size #[.pointer (some ⟨p,0,none⟩)] 161:=by rw[<-hW1,<-hW0];exact(Blk.new _ _ _).alloc _
 have z1:Blk W1 (w.heap.size+1) zPc 52:=by have:=Blk.new W0 zPc 52;rw[show W0.alloc (.cells zPc 52)=W1 from hW1,s0]at this;exact this
 have R1:=h.below b1;have K1:Wrote [p] w W1:=Wrote.of_below b1;have hpb:=h.lt;have hbs:=h.base;clear h b0;have CX:=hid (pk_text R1);have Z1:=hid z1;have B1:=hid b1;replace K1:=hid K1;clear z1 R1 b1;have e8:=and_8 f hf;have e1:=and_1 f hf;have e3:=and_3 f hf;obtain⟨z,hz⟩:=gen_of ((f:Int):Int);obtain⟨d,hd⟩:=gen_of (has f 8);obtain⟨rt,hrt⟩:=gen_of (has f 1);obtain⟨q,hq⟩:=gen_of (((f / 2%4:Nat):Int):Int);have hz0:0<=z:=by omega
 have hz1:z<16:=by omega
 have hq0:0<=q:=by omega
 have hq4:q<4:=by omega
 rw[hz]at e8 e1 e3 ⊢;rw[hd]at e8;rw[hrt]at e1;rw[hq]at e3;replace hz:=hid hz;have hrp:Hid (readP 3 f l=(rTxt l).bind fun t=>(rOpt (decide (0<q)) 0 (rNum 2) t.2).bind fun i=>some ({zPk 3 with dup:=d,retain:=rt,qos:=q,topic:=t.1,id:=(i.1:Int),body:=i.2},[])):=hid (by rw[readP_3];unfold readPub;rw[hd,hrt,hq,show decide (0<f / 2%4)=decide (0<q)from decide_eq_decide.2 (by omega)])
 clear hd hrt hq hf;go_enter func209,ntmps209;go_wp2_with (refine wL 161 rfl rfl x1 underlying161 ?_)
 refine CX.mono ?_;rintro e w2 (⟨hno,rfl,hw2⟩ | ⟨⟨s,r⟩,hx,rfl,R2,hw2⟩)
 ·refine⟨rfl,K1.trans hw2,.inl ⟨?_,rfl⟩⟩;rw[hrp,hno];rfl
 dsimp only at R2 ⊢;rw[hx,Option.bind_some]at hrp;dsimp only at hrp;have X2:=hid (x1.keepW hw2 (by simp;omega));have Z2:=hid (Z1.keepW hw2 (by simp;omega));have K2:=hid (K1.trans hw2);have R2:=hid R2;have hs2:w.heap.size+2<=w2.heap.size:=by have:=hw2.size;omega
 clear hw2 hx x1;obtain⟨p1,hp1⟩:∃p1:Pk,({zPk 0 with dup:=d,retain:=rt,qos:=q,topic:=s}:Pk)=p1:=⟨_,rfl⟩;have hone:Hid (∀v∈(p1.cells h3Z).toArray.toList,v.oneCell'=true):=hid (Pk.one p1 h3Z);obtain⟨pc,hpc⟩:=gen_of ((p1.cells h3Z).toArray);have hps:Hid (pc.size=24):=hid (by rw[<-hpc];rfl);have hpl:(.agg #[.int .i64 0,.bool d,.bool rt,.int .i64 q,.string ⟨s.toArray⟩,.string ⟨#[]⟩,.int .i64 0,.string ⟨#[]⟩,.bool false,.int .i64 0,.bool false,.string ⟨#[]⟩,.string ⟨#[]⟩,.int .i64 0,.bool false,.bool false,.bool false,.string ⟨#[]⟩,.string ⟨#[]⟩,.bool false,.int .i64 0,.slice none 0 0,.slice none 0 0,.slice none 0 0]:Value)=.agg pc:=by rw[<-hpc,<-hp1];rfl
 rw[hpc]at hone;replace hpl:=hid hpl;replace hpc:=hid hpc;go_upto_region 2 with(rw[hpl.out];refine wS 52 24 rfl _ _ pc rfl rfl (Blk.new _ _ _) hps.out (by rfl) hone.out ?_;intro w3 hw3 hr3);have b3:Below w2.heap.size w2 w3:=(bel_refl.alloc nat_le_rfl _).trans (hr3.below (by simp) (by simp));have hs3:w2.heap.size+1<=w3.heap.size:=by have:=hr3.size;simp at this;omega
 have R3:=hid (R2.below b3);have X3:=hid (X2.below b3);have Z3:=hid (Z2.below b3);have K3:=hid (K2.trans (Wrote.of_below b3));have Y3:=hid hw3;have kq:w3.cell? ⟨w2.heap.size,3,none⟩=some (.int .i64 q):=by rw[hw3.cell,<-hpc.out,<-hp1];rfl
 replace hp1:=hid hp1;clear hr3 b3 hw3 X2 Z2 K2 R2;try simp only[PT]
 by_cases hq:0<q
 ·have dq:decide (0<q)=true:=decide_eq_true hq;rw[dq]at hrp;have CN:=hid (pk_number R3.out 2 (by decide) (by decide));have x3:=X3.out;go_wp2_with (refine wL 161 rfl rfl x3 underlying161 ?_)
  refine CN.mono ?_;rintro e w4 (⟨hno,rfl,hw4⟩ | ⟨⟨i,r2⟩,hx,rfl,R4,hw4⟩)
  ·refine⟨rfl,K3.trans hw4,.inl ⟨?_,rfl⟩⟩;rw[hrp];unfold rOpt;rw[if_pos rfl,hno];rfl
  dsimp only at R4 ⊢;have y4:=Y3.keepW hw4 (by simp;omega);have X4:=hid (X3.keepW hw4 (by simp;omega));have Z4:=hid (Z3.keepW hw4 (by simp;omega));have K4:=hid (K3.trans hw4);have R4:=hid R4;have hx:=hid hx;have hs4:w2.heap.size+1<=w4.heap.size:=by have:=hw4.size;omega
  clear hw4 x3 kq;obtain⟨ii,hii⟩:=gen_of ((i:Int):Int);rw[hii];replace hii:=hid hii;go_upto_region 4 with(refine wpList_store_cell rfl 2 52 _ _ rfl (fun w=>by kernel_rfl) w2.heap.size 6 pc (.int .i64 ii) rfl rfl y4 (by rw[hps];decide) rfl rfl ?_;intro w5 hw5 hr5);obtain⟨pd,hpd⟩:=gen_of (pc.setIfInBounds 6 (.int .i64 ii));rw[hpd]at hw5;have hpdz:Hid (pd.size=24):=hid (by rw[<-hpd,Array.size_setIfInBounds,hps]);have hpd:=hid hpd;have Y5:=hid hw5;have X5:=hid (X4.keepW hr5 (by simp;omega));have Z5:=hid (Z4.keepW hr5 (by simp;omega));have R5:=hid (R4.wrote hr5 (by simp;omega));have K5:=hid (K4.andNew hr5 (by simp;omega));have hs5:w2.heap.size+1<=w5.heap.size:=by have:=hr5.size;omega
  clear hr5 y4 hw5;try simp only[PT]
  have CR:=hid (pk_rest R5.out);go_wp2_with (refine wL 161 rfl rfl X5.out underlying161 ?_)
  refine CR.mono ?_;rintro e w7 ⟨rfl,R7,hw7⟩;have y7:=Y5.keepW hw7 (by simp;omega);have Z7:=hid (Z5.keepW hw7 (by simp;omega));have K7:=hid (K5.trans hw7);have hs7:w2.heap.size+1<=w7.heap.size:=by have:=hw7.size;omega
  have R7:=hid R7;obtain⟨yd,hyd⟩:∃yd:Pk,({p1 with id:=ii,body:=r2}:Pk)=yd:=⟨_,rfl⟩;obtain⟨yc,hyc⟩:=gen_of ((yd.cells h3Z).toArray);have hset:Hid (pd.setIfInBounds 5 (.string ⟨r2.toArray⟩)=yc):=hid (by rw[<-hyc,<-hyd,<-hpd.out,<-hpc.out];rfl);have hyo:Hid (∀v∈yc.toList,v.oneCell'=true):=hid (by rw[<-hyc];exact Pk.one yd h3Z);have hyz:Hid (yc.size=24):=hid (by rw[<-hyc];rfl);have iy:Hid ((prog.info? 52).map (·.size)=some yc.size):=hid (by rw[hyz];exact(by kernel_rfl:(prog.info? 52).map (·.size)=some 24));have hyd:=hid hyd;have hyc:=hid hyc;clear hw7;go_upto_region 5 with(refine wpList_store_cell rfl 9 52 _ _ rfl (fun w=>by kernel_rfl) w2.heap.size 5 pd (.string ⟨r2.toArray⟩) rfl rfl y7 (by rw[hpdz];decide) rfl rfl ?_;intro w8 hw8 hr8);rw[hset]at hw8;have Z8:=hid (Z7.keepW hr8 (by simp;omega));have R8:=hid (R7.wrote hr8 (by simp;omega));have K8:=hid (K7.andNew hr8 (by simp;omega));have hs8:=hr8.size;clear hr8 y7;try simp only[PT]
  go_wp2_with (first
   | (refine wL 52 rfl rfl hw8 underlying52 ?_ rfl rfl iy.out)
   | (refine wS 52 24 rfl (w.heap.size+1) _ yc rfl rfl Z8.out hyz.out rfl hyo.out ?_;intro w9 hw9 hr9))
  refine bodyPost_ret (results_cell1 results209 rfl (run_loadVar_blk hw9 52 underlying52 rfl iy.out)) rfl ?_;refine⟨K8.andNew hr9 (by simp),.inr ⟨yd,h3Z,[],?_,by rw[hyc.out],R8.wrote hr9 (by simp;omega),fun M _=>PkN.zero _ _ ⟨by rw[<-hyd.out,<-hp1.out];rfl,by rw[<-hyd.out,<-hp1.out];rfl,by rw[<-hyd.out,<-hp1.out];rfl⟩ M⟩⟩;rw[hrp,show rOpt true 0 (rNum 2) r=some (i,r2)from hx.out,Option.bind_some,hii.out];rw[<-hyd.out,<-hp1.out];rfl
 have dq:decide (0<q)=false:=decide_eq_false hq;rw[dq]at hrp;go_upto_region 4 with fail
 try simp only[PT]
 have CR:=hid (pk_rest R3.out);go_wp2_with (refine wL 161 rfl rfl X3.out underlying161 ?_)
 refine CR.mono ?_;rintro e w7 ⟨rfl,R7,hw7⟩;have y7:=Y3.keepW hw7 (by simp;omega);have Z7:=hid (Z3.keepW hw7 (by simp;omega));have K7:=hid (K3.trans hw7);have hs7:w2.heap.size+1<=w7.heap.size:=by have:=hw7.size;omega
 have R7:=hid R7;obtain⟨yd,hyd⟩:∃yd:Pk,({p1 with id:=0,body:=r}:Pk)=yd:=⟨_,rfl⟩;obtain⟨yc,hyc⟩:=gen_of ((yd.cells h3Z).toArray);have hset:Hid (pc.setIfInBounds 5 (.string ⟨r.toArray⟩)=yc):=hid (by rw[<-hyc,<-hyd,<-hpc.out,<-hp1.out];rfl);have hyo:Hid (∀v∈yc.toList,v.oneCell'=true):=hid (by rw[<-hyc];exact Pk.one yd h3Z);have hyz:Hid (yc.size=24):=hid (by rw[<-hyc];rfl);have iy:Hid ((prog.info? 52).map (·.size)=some yc.size):=hid (by rw[hyz];exact(by kernel_rfl:(prog.info? 52).map (·.size)=some 24));have hyd:=hid hyd;have hyc:=hid hyc;clear hw7;go_upto_region 5 with(refine wpList_store_cell rfl 9 52 _ _ rfl (fun w=>by kernel_rfl) w2.heap.size 5 pc (.string ⟨r.toArray⟩) rfl rfl y7 (by rw[hps];decide) rfl rfl ?_;intro w8 hw8 hr8);rw[hset]at hw8;have Z8:=hid (Z7.keepW hr8 (by simp;omega));have R8:=hid (R7.wrote hr8 (by simp;omega));have K8:=hid (K7.andNew hr8 (by simp;omega));have hs8:=hr8.size;clear hr8 y7;try simp only[PT]
 go_wp2_with (first
  | (refine wL 52 rfl rfl hw8 underlying52 ?_ rfl rfl iy.out)
  | (refine wS 52 24 rfl (w.heap.size+1) _ yc rfl rfl Z8.out hyz.out rfl hyo.out ?_;intro w9 hw9 hr9))
 refine bodyPost_ret (results_cell1 results209 rfl (run_loadVar_blk hw9 52 underlying52 rfl iy.out)) rfl ?_;refine⟨K8.andNew hr9 (by simp),.inr ⟨yd,h3Z,[],?_,by rw[hyc.out],R8.wrote hr9 (by simp;omega),fun M _=>PkN.zero _ _ ⟨by rw[<-hyd.out,<-hp1.out];rfl,by rw[<-hyd.out,<-hp1.out];rfl,by rw[<-hyd.out,<-hp1.out];rfl⟩ M⟩⟩;rw[hrp,show rOpt false 0 (rNum 2) r=some (0,r)from rfl,Option.bind_some];rw[<-hyd.out,<-hp1.out];rfl
end
end Go.Proofs.YtkghejaimhoboaaGreatDoor
