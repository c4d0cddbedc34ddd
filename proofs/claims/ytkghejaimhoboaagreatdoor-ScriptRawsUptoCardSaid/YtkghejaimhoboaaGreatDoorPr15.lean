/- Parts of the proof of ScriptRaws. -/
import Derived.Test.YtkghejaimhoboaaGreatDoorPr12
import Derived.Test.YtkghejaimhoboaaGreatDoorPr13
import Derived.Test.YtkghejaimhoboaaGreatDoorPr11
set_option linter.unusedSimpArgs false
set_option linter.unusedVariables false
set_option maxRecDepth 100000
set_option maxHeartbeats 8000000
namespace Go.Proofs.YtkghejaimhoboaaGreatDoor
open Go.RowKit Go.Shelf Go.Proofs.Tryz
structure SDid (w w':World)(S S':XLay)(x':XS)(vp vc:Value)(ps:List PackV)(cs:List ChangeV):Prop where
 xb:XB w' w'.heap.size S' x'
 p:S'.p=S.p
 stp:Stp S.foot S'.foot w w'
 packs:w'.ownsRow w.heap.size 52 24 vp ps.length (ps.flatMap PackV.cells)
 chgs:w'.ownsRow w.heap.size 430 10 vc cs.length (cs.flatMap ChangeV.cells)
 free:∀b∈blk vp++blk vc,b∉S'.foot
theorem XB.top{w:World}{B:Nat}{S:XLay}{x:XS}(h:XB w B S x):XB w w.heap.size S x:=
 ⟨h.box,ob_rebase2 h.ob h.nil,h.nil,h.inb,h.set,h.wm,h.will,h.apart,h.nodup,h.gg,h.ok⟩
theorem SDid.step{w w' w2:World}{S S':XLay}{x':XS}{vp vc:Value}{ps:List PackV}{cs:List ChangeV}(d:SDid w w' S S' x' vp vc ps cs){M:List Nat}(hw:Wrote M w' w2)(hM:∀b∈M,b∉S'.foot/\b∉blk vp/\b∉blk vc)(hg:1∉M)(hn:∀b∈M,w.heap.size<=b):
  SDid w w2 S S' x' vp vc ps cs:=
 ⟨(d.xb.out hw (fun b hb=>(hM b hb).1) hg).top,d.p,⟨d.stp.wrote.andNew hw hn,d.stp.sub⟩,not_own d.packs hw (fun b hb=>(hM b hb).2.1),not_own d.chgs hw (fun b hb=>(hM b hb).2.2),d.free⟩
theorem SDid.from{w0 w w':World}{S S':XLay}{x':XS}{vp vc:Value}{ps:List PackV}{cs:List ChangeV}(d:SDid w w' S S' x' vp vc ps cs)(hb:Below w0.heap.size w0 w):SDid w0 w' S S' x' vp vc ps cs:=
 ⟨d.xb,d.p,(Stp.below hb).trans d.stp,ownsRow_mono d.packs hb.size,ownsRow_mono d.chgs hb.size,d.free⟩
theorem r19_Right_sess(c:List UInt8)(seq id:Int)(w:World)(hm:sessMay (sessV c seq id)=true)(hc:c.length<=1000000)(hid1:1<=id/\id<=65535):
  Calls prog 109 #[.agg (sessV c seq id).vals] w fun e w'=>e=.returned (.bool true)/\Below w.heap.size w w':=by
 unfold sessMay sessV at hm;simp only[Bool.and_eq_true,decide_eq_true_eq]at hm;obtain⟨⟨hbc,hbs⟩,hbi⟩:=hm;have CC:=hid fun w=>r19_client c w hc;rw[hbc]at CC;have CS:=hid (r19_number seq);rw[show(decide (0<=seq)&&decide (seq<=4611686018427387904))=true by simp[hbs]]at CS;have CI:=hid (r19_number id);rw[show(decide (0<=id)&&decide (id<=4611686018427387904))=true by simp[hbi]]at CI;unfold sessV RowV.vals;have i1:decide (1<=id)=true:=decide_eq_true (by omega);have i2:decide (id<=65535)=true:=decide_eq_true (by omega);clear hbc hbs hbi hc hid1;go_enter func109,ntmps109;go_wp2_with (first
  | (go_at_call 175;refine(CC _).mono ?_;rintro e w1 ⟨rfl,hb⟩;have c2:=cellB hb (j:=2) rfl;have c3:=cellB hb (j:=3) rfl)
  | (go_at_call 176;refine(CS _).mono ?_;rintro e w3 ⟨rfl,rfl⟩)
  | (go_at_call 176;refine(CI _).mono ?_;rintro e w3 ⟨rfl,rfl⟩))
 go_ret;exact⟨rfl,((Below.refl w.heap.size w).alloc nat_le_rfl _).trans (hb.mono (by simp))⟩
theorem CRow.kind{c:List UInt8}{r:RowV}(h:CRow c r):kindOK r:=by
 rcases h with h | ⟨q,i,rfl,_⟩
 ·exact .inr (.inr (.inl h.1))
 exact .inl rfl
def zS:Array Value:=#[.int .i64 0,.int .i64 0,.int .i64 0,.int .i64 0,.string ⟨#[]⟩,.int .i64 0,.int .i64 0,.int .i64 0,.int .i64 0,.slice none 0 0,.slice none 0 0,.slice none 0 0,.slice none 0 0,.slice none 0 0,.bool false,.bool false,.int .i64 0,.int .i64 0,.string ⟨#[]⟩,.string ⟨#[]⟩,.int .i64 0,.bool false]
structure R3 (w W:World)(Z:Array Value)(n:Nat):Prop where
 g:Blk W w.heap.size Z 130
 r:∃rs,Blk W (w.heap.size+1) rs 130/\rs.size=22
 d:∃ds,Blk W (w.heap.size+1+n) ds 311/\ds.size=2
 below:Below w.heap.size w W
theorem R3.put{w W W':World}{Z:Array Value}{n:Nat}(h:R3 w W Z n)(hn:n≠0){Z':Array Value}(hb:Blk W' w.heap.size Z' 130)(hw:Wrote [w.heap.size] W W'):R3 w W' Z' n:=by obtain⟨g,⟨rs,r1,r2⟩,⟨ds,d1,d2⟩,b⟩:=h;exact⟨hb,⟨rs,r1.wrote hw (by simp),r2⟩,⟨ds,d1.wrote hw (by simp;omega),d2⟩,below_wrote b hw (by simp)⟩
section
def splice(cur:Array Value)(j:Nat)(cs:Array Value):Array Value:=(cur.toList.take j++cs.toList++cur.toList.drop (j+cs.size)).toArray
section
variable {P:Program} {w:World}
theorem run_store_mid(t T:TypeId)(n:Nat)(hs:∀w,(sizeOf t).run P w=.ok n w){b j:Nat}{cur cs:Array Value}(hb:Blk w b cur T)(h1:cs.size=n)(h2:j+n<=cur.size)(ho1:∀v∈cs.toList,v.oneCell'=true):
  (Instr.storeAt t (.pointer (some ⟨b,j,none⟩)) (.agg cs)).run P w=.ok () (w.setRow b (splice cur j cs)):=by
 have hr:=run_storeCells_at P b j T cs.toList 0 cur w hb (by simp;omega) ho1;simp only[Nat.add_zero,Array.length_toList]at hr;have hc:(Value.agg cs).cells=cs:=rfl;unfold splice;simp[Instr.storeAt,Instr.sureAddr,storeVar,hs,hc,h1,hr]
theorem wp_store_mid{o:Oper}{a:Act}{K:Act->World->Prop}{Q:Exit->Act->World->Prop}(t T:TypeId)(x y:Operand)(ho:o.op=.store t x y)(n:Nat)(hs:∀w,(sizeOf t).run P w=.ok n w)(b j:Nat)(cur cs:Array Value)
  (hx:a.eval x=.pointer (some ⟨b,j,none⟩)) (hy:a.eval y=.agg cs) (hb:Blk w b cur T) (h1:cs.size=n) (h2:j+n<=cur.size) (ho1:∀v∈cs.toList,v.oneCell'=true)
  (h:∀w',Blk w' b (splice cur j cs) T->Wrote [b] w w'->K (a.put o.dst undef) w'):o.wp P a w K Q:=by
 have hr:=run_store_mid (P:=P) t T n hs hb h1 h2 ho1;unfold Oper.wp execOp;simp only[ho,hx,hy,Sem.run_bind,hr,Result.andThen_ok,Sem.run_pure];simp only[Oper.upon];exact h _ (setRow_heap w b cur _ T (0,0) hb) (setRow_wrote b _)
theorem wpList_store_mid{ops:Array Oper}{rest:List Oper}{op:Oper}{a:Act}{Q:Exit->Act->World->Prop}(hgd:op.guard=none)(t T:TypeId)(x y:Operand)(ho:op.op=.store t x y)(n:Nat)(hs:∀w,(sizeOf t).run P w=.ok n w)(b j:Nat)(cur cs:Array Value)
  (hx:a.eval x=.pointer (some ⟨b,j,none⟩)) (hy:a.eval y=.agg cs) (hb:Blk w b cur T) (h1:cs.size=n) (h2:j+n<=cur.size) (ho1:∀v∈cs.toList,v.oneCell'=true)
  (h:∀w',Blk w' b (splice cur j cs) T->Wrote [b] w w'->wpList P ops Q rest (a.put op.dst undef) w'):wpList P ops Q (op::rest) a w:=
 wpList_plain hgd fun _ hK=>wp_store_mid t T x y ho n hs b j cur cs hx hy hb h1 h2 ho1 fun w' hb' hw'=>hK _ _ (h w' hb' hw')
end
end
structure GS (Z:Array Value):Prop where
 size:Z.size=22
 one:∀v∈Z.toList,v.oneCell'=true
theorem GS.set{Z:Array Value}(h:GS Z)(i:Nat)(v:Value)(hv:v.oneCell'=true):GS (Z.setIfInBounds i v):=by refine⟨by simp[h.size],fun u hu=>?_⟩;rw[Array.toList_setIfInBounds]at hu;exact(List.mem_or_eq_of_mem_set hu).elim (h.one u) (fun e=>e▸hv)
structure AcV where
 kind:Int
 qos:Int
 topic:List UInt8
 body:List UInt8
 truth:Bool
 has:Bool
 will:WillV
 pack:Int
 n:Int
 now:Int
def AcV.cells(a:AcV):Array Value:=#[.int .i64 a.kind,.int .i64 a.qos,.string ⟨a.topic.toArray⟩,.string ⟨a.body.toArray⟩,.bool a.truth,.bool a.has,.string ⟨a.will.topic.toArray⟩,.string ⟨a.will.body.toArray⟩,.int .i64 a.will.qos,.bool a.will.retain,.int .i64 a.pack,.int .i64 a.n,.int .i64 a.now]
structure AcsAt (w:World)(a:Option Addr)(n cap:Nat)(xs:List AcV):Prop where
 len:xs.length=n
 le:n<=cap
 max:cap<=maxLen
 at':∀i x,xs[i]?=some x->∃g off,a=some ⟨g,off,none⟩/\g<w.heap.size/\w.rangeAt g (off+i*13) x.cells.toList
theorem AcsAt.below{w w':World}{a:Option Addr}{n cap:Nat}{xs:List AcV}(h:AcsAt w a n cap xs)(hb:Below w.heap.size w w'):AcsAt w' a n cap xs:=
 ⟨h.len,h.le,h.max,fun i x hx=>by obtain⟨g,off,h1,h2,h3⟩:=h.at' i x hx;exact⟨g,off,h1,Nat.lt_of_lt_of_le h2 hb.size,range_below h3 h2 hb⟩⟩
def AcV.cl(x:AcV):List Value:=x.cells.toList
theorem AcV.cllen(x:AcV):x.cl.length=13:=rfl
section
open Go.RowKit Go.Shelf Go.Deep
variable {H:Type} {enc:TypeId×Value->H}
theorem will_of{w:World}{base:Nat}{sp:Nat->Bool}{held:Bool}{fuel:Nat}{cs:List Value}{x:DataW H×List MemPlace}(h:DataW.trod enc prog w base sp held fuel 47 cs=some x):∃y:WillV,cs=y.vals.toList:=by
 obtain⟨xs,k,_,_,hlen,hxl,hf⟩:=DataW.trod_struct underlying47 h;have c7:prog.cellsOf 47=4:=by kernel_rfl
 rw[c7]at hlen;have i1:prog.cellsOf 3=1:=by kernel_rfl
 have i2:prog.cellsOf 9=1:=by kernel_rfl
 have i3:prog.cellsOf 4=1:=by kernel_rfl
 match cs,hlen with
 |[v0,v1,v2,v3],_=>have g0:DataW.trod enc prog w base sp held k 9 (([v0,v1,v2,v3].drop 0).take (prog.cellsOf 9))=xs[0]?:=hf 0 _ rfl;have g1:DataW.trod enc prog w base sp held k 9 (([v0,v1,v2,v3].drop 1).take (prog.cellsOf 9))=xs[1]?:=hf 1 _ rfl;have g2:DataW.trod enc prog w base sp held k 3 (([v0,v1,v2,v3].drop 2).take (prog.cellsOf 3))=xs[2]?:=hf 2 _ rfl;have g3:DataW.trod enc prog w base sp held k 4 (([v0,v1,v2,v3].drop 3).take (prog.cellsOf 4))=xs[3]?:=hf 3 _ rfl;rw[i2]at g0 g1;rw[i1]at g2;rw[i3]at g3;have hx7:xs.length=4:=hxl;rw[List.getElem?_eq_getElem (by omega)]at g0 g1 g2 g3;obtain⟨s0,e0,_⟩:=DataW.trod_string underlying9 g0;obtain⟨s1,e1,_⟩:=DataW.trod_string underlying9 g1;obtain⟨n2,e2,_⟩:=DataW.trod_int underlying3 g2;obtain⟨b3,e3,_⟩:=DataW.trod_bool underlying4 g3;simp at e0 e1 e2 e3;subst e0 e1 e2 e3;exact⟨⟨s0.data.toList,s1.data.toList,n2,b3⟩,by simp[WillV.vals]⟩
end
end Go.Proofs.YtkghejaimhoboaaGreatDoor
