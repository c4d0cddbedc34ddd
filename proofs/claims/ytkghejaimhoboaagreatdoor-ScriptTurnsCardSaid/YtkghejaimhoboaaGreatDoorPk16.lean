/- Parts of the proof of ScriptTurns. -/
import Derived.Test.YtkghejaimhoboaaGreatDoorPk12
import Derived.Test.YtkghejaimhoboaaGreatDoorPk13
import Derived.Test.YtkghejaimhoboaaGreatDoorPk11
set_option linter.unusedSimpArgs false
set_option linter.unusedVariables false
set_option maxRecDepth 100000
set_option maxHeartbeats 8000000
namespace Go.Proofs.YtkghejaimhoboaaGreatDoor
open Go.RowKit Go.Shelf Go.Proofs.Tryz
theorem uZ(c:List UInt8)(seq id:Int)(w:World)(hm:fe (bE c seq id)=true)(hc:c.length<=1000000)(abf:1<=id/\id<=65535):
  Calls prog 109 #[.agg (bE c seq id).vals] w fun e w'=>e=.returned (.bool true)/\Below w.heap.size w w':=by
 unfold fe bE at hm;simp only[Bool.and_eq_true,decide_eq_true_eq]at hm;obtain⟨⟨o0,mF⟩,UY⟩:=hm;have CC:=af fun w=>Dk c w hc;rw[o0]at CC;have CS:=af (uP seq);rw[show(decide (0<=seq)&&decide (seq<=4611686018427387904))=true by simp[mF]]at CS;have CI:=af (uP id);rw[show(decide (0<=id)&&decide (id<=4611686018427387904))=true by simp[UY]]at CI;unfold bE aP.vals;have i1:decide (1<=id)=true:=decide_eq_true (by omega);have i2:decide (id<=65535)=true:=decide_eq_true (by omega);clear o0 mF UY hc abf;go_enter func109,ntmps109;go_wp2_with (first
  | (go_at_call 175;refine(CC _).mono ?_;rintro e w1 ⟨rfl,hb⟩;have c2:=bH hb (j:=2) rfl;have c3:=bH hb (j:=3) rfl)
  | (go_at_call 176;refine(CS _).mono ?_;rintro e w3 ⟨rfl,rfl⟩)
  | (go_at_call 176;refine(CI _).mono ?_;rintro e w3 ⟨rfl,rfl⟩))
 go_ret;exact⟨rfl,((Below.refl w.heap.size w).alloc ah _).trans (hb.mono (by simp))⟩
def zS:Array Value:=#[.int .i64 0,.int .i64 0,.int .i64 0,.int .i64 0,.string ⟨#[]⟩,.int .i64 0,.int .i64 0,.int .i64 0,.int .i64 0,.slice none 0 0,.slice none 0 0,.slice none 0 0,.slice none 0 0,.slice none 0 0,.bool false,.bool false,.int .i64 0,.int .i64 0,.string ⟨#[]⟩,.string ⟨#[]⟩,.int .i64 0,.bool false]
section
def kM(cur:Array Value)(j:Nat)(cs:Array Value):Array Value:=(cur.toList.take j++cs.toList++cur.toList.drop (j+cs.size)).toArray
theorem Ak{cur cs:Array Value}{j:Nat}(h:j+cs.size<=cur.size):(kM cur j cs).size=cur.size:=by unfold kM;simp;omega
section
variable {P:Program} {w:World}
theorem wF(t T:TypeId)(n:Nat)(hs:∀w,(sizeOf t).run P w=.ok n w){b j:Nat}{cur cs:Array Value}(hb:ar w b cur T)(h1:cs.size=n)(h2:j+n<=cur.size)(ke:∀v∈cs.toList,v.oneCell'=true):
  (Instr.storeAt t (.pointer (some ⟨b,j,none⟩)) (.agg cs)).run P w=.ok () (w.setRow b (kM cur j cs)):=by
 have hr:=run_storeCells_at P b j T cs.toList 0 cur w hb (by simp;omega) ke;simp only[Nat.add_zero,Array.length_toList]at hr;have hc:(Value.agg cs).cells=cs:=rfl;unfold kM;simp[Instr.storeAt,Instr.sureAddr,storeVar,hs,hc,h1,hr]
theorem wp_store_mid{o:Oper}{a:Act}{K:Act->World->Prop}{Q:Exit->Act->World->Prop}(t T:TypeId)(x y:Operand)(ho:o.op=.store t x y)(n:Nat)(hs:∀w,(sizeOf t).run P w=.ok n w)(b j:Nat)(cur cs:Array Value)
  (hx:a.eval x=.pointer (some ⟨b,j,none⟩)) (hy:a.eval y=.agg cs) (hb:ar w b cur T) (h1:cs.size=n) (h2:j+n<=cur.size) (ke:∀v∈cs.toList,v.oneCell'=true)
  (h:∀w',ar w' b (kM cur j cs) T->ak [b] w w'->K (a.put o.dst undef) w'):o.wp P a w K Q:=by
 have hr:=wF (P:=P) t T n hs hb h1 h2 ke;unfold Oper.wp execOp;simp only[ho,hx,hy,Sem.run_bind,hr,Result.andThen_ok,Sem.run_pure];simp only[Oper.upon];exact h _ (setRow_heap w b cur _ T (0,0) hb) (lW b _)
theorem wpList_store_mid{ops:Array Oper}{rest:List Oper}{op:Oper}{a:Act}{Q:Exit->Act->World->Prop}(hgd:op.guard=none)(t T:TypeId)(x y:Operand)(ho:op.op=.store t x y)(n:Nat)(hs:∀w,(sizeOf t).run P w=.ok n w)(b j:Nat)(cur cs:Array Value)
  (hx:a.eval x=.pointer (some ⟨b,j,none⟩)) (hy:a.eval y=.agg cs) (hb:ar w b cur T) (h1:cs.size=n) (h2:j+n<=cur.size) (ke:∀v∈cs.toList,v.oneCell'=true)
  (h:∀w',ar w' b (kM cur j cs) T->ak [b] w w'->wpList P ops Q rest (a.put op.dst undef) w'):wpList P ops Q (op::rest) a w:=
 wpList_plain hgd fun _ hK=>wp_store_mid t T x y ho n hs b j cur cs hx hy hb h1 h2 ke fun w' hb' hw'=>hK _ _ (h w' hb' hw')
end
end
end Go.Proofs.YtkghejaimhoboaaGreatDoor
