/-
  Lemmas for the laws, together: MarkA.
-/
import Derived.Test.YtfkedlgpgmaemaaGreatDoorQaa
import Derived.Conc.LoneSelect
import Derived.Test.YtfkedlgpgmaemaaGreatDoorQam
import Derived.Test.YtfkedlgpgmaemaaGreatDoorQai
import Derived.Deep.RegionHeld3
import Derived.Deep.RegionHeldLaw
import Derived.Test.YtfkedlgpgmaemaaGreatDoorQak
import Derived.Test.YtfkedlgpgmaemaaGreatDoorQac
import Derived.Test.YtfkedlgpgmaemaaGreatDoorQax
import Derived.Test.YtfkedlgpgmaemaaGreatDoorQaz
set_option linter.unusedVariables false
set_option maxHeartbeats 16000000
namespace Go.Proofs.YtfkedlgpgmaemaaGreatDoor
open Tryz
section
open Go.RowKit Go.Conc

def wpN(P:Program)(c:Code)(Q:Exit->Act->World->Prop)(a:Act)(w:World):Prop:=
 ∀ (b:Frame) (k:List Item) (cs:List Frame),b.kind≠.early->
  ∃ e a' w',Q e a' w'/\Arrives P (lone (b.at a (.code c::k)) cs w) b k cs e a' w'

section
variable {P:Program} {Q:Exit->Act->World->Prop} {a:Act} {w:World}

theorem Cn{c:Code}(h:c.wp P Q a w):wpN P c Q a w:=λ b k cs _=>h b k cs

theorem Dr{x y:Code}(n:wpN P x (Exit.then (λ a w=>wpN P y Q a w) Q) a w):wpN P (Code.seq x y) Q a w:=by
 intro b k cs i
 obtain⟨e,f,g,d,c⟩:=n b (.code y::k) cs i
 cases e with
 |normal=>
  obtain⟨m,j,q,p,o⟩:=d b k cs i
  exact⟨m,j,q,p,.of_steps (.head step_seq c) o⟩
 |exit id=>exact ⟨_,f,g,d,.of_steps (.one step_seq) (.pass (x:=.code y) rfl (λ _ _=>.inl (by simp)) c)⟩
 |goto l=>exact ⟨_,f,g,d,.of_steps (.one step_seq) (.pass (x:=.code y) rfl (λ _ _=>.inl (by simp)) c)⟩
 |ret=>exact ⟨_,f,g,d,.of_steps (.one step_seq) (.pass (x:=.code y) rfl (λ _ _=>.inl (by simp)) c)⟩
 |panic ch=>exact ⟨_,f,g,d,.of_steps (.one step_seq) (.pass (x:=.code y) rfl (λ _ _=>.inl (by simp)) c)⟩
 |outgrown=>exact ⟨_,f,g,d,.of_steps (.one step_seq) (.pass (x:=.code y) rfl (λ _ _=>.inl (by simp)) c)⟩

theorem wpN_region_comm{i:Nat}{ops:Array Oper}{rest:List Nat}{v:Value}{w':World}(f:List.range ops.size=0::rest)
  (g:∀ (b:Frame) (k:List Item) (cs:List Frame),b.kind≠.early->step P (solo (G (b.at a (.inRegion ops (0::rest)::k)) cs) w)=.next (solo (G ((b.at a (.inRegion ops (0::rest)::k)).finish v) cs) w'))
  (c:wpOps P ops Q rest (a.put ((ops[0]?).bind (·.dst)) v) w'):wpN P (Code.region i ops false) Q a w:=by
 intro b k cs d
 obtain⟨e,a',j,q,r⟩:=wp_ops rest _ w' c b k cs
 refine⟨e,a',j,q,.of_steps (.head step_region ?_) r⟩
 rw[f]
 refine .one ?_
 have:=g b k cs d
 rw[Frame.finish_at] at this
 exact this

theorem EM{p:Nat}{o:Oper}{l:List Oper}{v:Value}{w':World}{cases:Array CommCase}{d:Bool}{shape:CommShape}(n:Region.wanted o (yielded (o::l).toArray a.tmps)=true)(i:(execOp a.eval o).run P w=.ok (.comm cases d shape) w)
  (m:∀ (c:Frame) (cs:List Frame) (es:Array Event),stepG P true (G c cs) w=.comm (G c cs) cases d shape w es->step P (solo (G c cs) w)=.next (solo (G (c.finish v) cs) w'))
  (f:wpList P (o::l).toArray Q l (a.put o.dst v) w'):wpN P (Code.region p (o::l).toArray false) Q a w:=by
 refine wpN_region_comm (rest:=List.range' 1 l.length) (v:=v) (w':=w') ?_ (λ b k cs g=>m _ cs _ (stepG_comm (by simp) n g i)) ?_
 .rw [List.range_eq_range']
  simp[List.range'_succ]
 .have e:=wpOps_eq_wpList (P:=P) (ops:=(o::l).toArray) (Q:=Q) l 1 (λ j=>by simp[Nat.add_comm 1 j])
  rw[e]
  simpa using f

theorem wpN_send_room{j:Nat}{o:Oper}{l:List Oper}{c cap s r:Nat}{buf:Array Value}{v z:Value}{tm:Bool}(i:Region.wanted o (yielded (o::l).toArray a.tmps)=true)(f:(execOp a.eval o).run P w=.ok (.comm #[scase c v z] false .select) w)
  (d:w.heap[c]?=some (.chan cap buf false s r tm)) (g:buf.size<cap) (b:wpList P (o::l).toArray Q l (a.put o.dst (.tuple #[goInt 0,.bool false])) (w.setChan c cap (buf.push v) false (s+1) r tm)):wpN P (Code.region j (o::l).toArray false) Q a w:=
 EM i f (λ _ _ _ e=>step_lone_select_send_room e d g) b

theorem wpN_send_full{j:Nat}{o:Oper}{l:List Oper}{c cap s r:Nat}{buf:Array Value}{v z:Value}{tm:Bool}(i:Region.wanted o (yielded (o::l).toArray a.tmps)=true)(g:(execOp a.eval o).run P w=.ok (.comm #[scase c v z] false .select) w)
  (d:w.heap[c]?=some (.chan cap buf false s r tm)) (e:cap<=buf.size) (b:wpList P (o::l).toArray Q l (a.put o.dst (.tuple #[goInt (-1),.bool false])) w):wpN P (Code.region j (o::l).toArray false) Q a w:=
 EM i g (λ _ _ _ f=>step_lone_select_send_full f d e) b

theorem wpN_recv_buf{j:Nat}{o:Oper}{l:List Oper}{c cap s r:Nat}{buf:Array Value}{z:Value}{tm closed:Bool}(i:Region.wanted o (yielded (o::l).toArray a.tmps)=true)(f:(execOp a.eval o).run P w=.ok (.comm #[rcase c z] false .select) w)
  (d:w.heap[c]?=some (.chan cap buf closed s r tm)) (g:0<buf.size) (b:wpList P (o::l).toArray Q l (a.put o.dst (.tuple #[goInt 0,.bool true,buf.getD 0 undef])) (w.setChan c cap (buf.extract 1 buf.size) closed s (r+1) tm)):wpN P (Code.region j (o::l).toArray false) Q a w:=
 EM i f (λ _ _ _ e=>step_lone_select_recv_buf e d g) b

theorem wpN_recv_empty{i:Nat}{o:Oper}{l:List Oper}{c cap s r:Nat}{z:Value}{tm:Bool}(g:Region.wanted o (yielded (o::l).toArray a.tmps)=true)(f:(execOp a.eval o).run P w=.ok (.comm #[rcase c z] false .select) w)
  (d:w.heap[c]?=some (.chan cap #[] false s r tm)) (b:wpList P (o::l).toArray Q l (a.put o.dst (.tuple #[goInt (-1),.bool false,z])) w):wpN P (Code.region i (o::l).toArray false) Q a w:=
 EM g f (λ _ _ _ e=>step_lone_select_default e d) b

theorem EF{f:FuncId}{fn:Func}{c:Code}{args:Array Value}{R:Ending->World->Prop}
  (j:P.funcs[f]?=some fn) (o:fn.body=some c)
  (n:wpN P c (bodyPost P fn R) {tmps:=args++Array.replicate (fn.ntmps-args.size) undef,defers:=[]} w):Calls P f args w R:=by
 intro cs
 let b:Frame:={(default:Frame) with fn:=f,kind:=.normal}
 have p:Frame.enter P f args .normal=b.at {tmps:=args++Array.replicate (fn.ntmps-args.size) undef,defers:=[]} [.code c]:=by
  simp[Frame.enter,Frame.at,j,o,b]
 obtain⟨e,a',w',a,g⟩:=n b [] cs (by simp[b])
 rw[<- p] at g
 cases e with
 |normal=>
  obtain⟨i,v,k,d⟩:=a
  exact⟨.returned v,w',_,d,Steps.trans g (.one step_end),rfl,rfl,i,rfl,fn,j,k⟩
 |ret=>
  obtain⟨i,v,k,d⟩:=a
  obtain⟨q,m⟩:=g
  exact⟨.returned v,w',_,d,m,rfl,rfl,i,rfl,fn,j,k⟩
 |panic chain=>
  obtain⟨i,d⟩:=a
  obtain⟨q,m⟩:=g
  exact⟨.panicked chain,w',_,d,m,rfl,rfl,i,fn,j⟩
 |exit id=>exact a.elim
 |goto l=>exact a.elim
 |outgrown=>exact ⟨.outgrown,w',b,a,g.resolve_left (by simp[b]),rfl,trivial⟩

end

structure StackAt(w:World)(mb c cap base:Nat)(v0 v1 v2 v6 v7 lv:Value)(stk:List Nat)(deep:Nat):Prop where
 blk:w.heap[mb]?=some (.cells #[v0,v1,v2,.chan (some c),lv,deep,v6,v7] 213 (0,0))
 ch:∃ buf s r,w.heap[c]?=some (.chan cap buf false s r false)/\buf.size=stk.length
 row:w.ownsRow base 3 1 lv stk.length (Az stk)
 le:stk.length<=cap
 cap_le:cap<=65536
 deep_le:deep<=cap
 mb_lt:mb<base
 c_lt:c<base
 ne:¬ mb=c

theorem Cs{w:World}{b:Nat}{a c d e f g i j:Value}{T:TypeId}(k:w.heap[b]?=some (.cells #[a,c,d,e,f,g,i,j] T (0,0))):
  w.cell? b=some a/\w.cell? ⟨b,1,none⟩=some c/\w.cell? ⟨b,2,none⟩=some d/\w.cell? ⟨b,3,none⟩=some e/\w.cell? ⟨b,4,none⟩=some f/\w.cell? ⟨b,5,none⟩=some g/\w.cell? ⟨b,6,none⟩=some i/\w.cell? ⟨b,7,none⟩=some j:=by
 refine⟨?_,?_,?_,?_,?_,?_,?_,?_⟩ <;> simp only[World.cell?,k] <;> rfl

theorem Kp.setChan{S:Nat->Prop}{a w:World}(b:Kp S a w){c:Nat}(i:c<a.heap.size->S c)(cap:Nat)(buf:Array Value)(g:Bool)(s r:Nat)(tm:Bool):Kp S a (w.setChan c cap buf g s r tm):=
 ⟨b.os,b.tape,b.output,by simp[World.setChan];exact b.size,λ k d f=>by
  simp only[World.setChan]
  rw[Array.getElem?_setIfInBounds_ne (λ e=>f (by subst e;exact i d))]
  exact b.block k d f⟩

set_option maxRecDepth 20000 in
theorem Push_full(mb c cap base x:Nat)(v0 m n p q l:Value)(d:List Nat)(i:Nat)(w:World)(a:StackAt w mb c cap base v0 m n p q l d i)(k:d.length=cap):
  Calls prog 169 #[.pointer (some ⟨mb,3,none⟩),x] w λ e w'=>e=.returned (.bool false)/\w'=w:=by
 obtain⟨t,u,y,A,B,C,D,E⟩:=Cs a.blk
 obtain⟨buf,s,r,b,j⟩:=a.ch
 have g:=sE b
 have f:Sl (cap<=buf.size):=⟨by omega⟩
 clear a b j k
 refine EF func169 rfl ?_
 simp only[ntmps169,List.size_toArray,List.length_cons,List.length_nil,Nat.reduceAdd,Nat.reduceSub,Array.replicate_succ,Array.replicate_zero,List.push_toArray,List.append_toArray,List.nil_append,List.cons_append]
 refine Dr (Cn ?_)
 go_wp2_with fail
 refine Dr ?_
 refine Cn ?_
 go_wp2_with fail
 refine Dr ?_
 refine wpN_send_full (c:=c) (cap:=cap) (buf:=buf) (s:=s) (r:=r) (tm:=false) (v:=.agg #[]) (z:=.agg #[]) ?_ ?_ g.o f.o ?_
 .kernel_rfl
 .simp [go_sem,execOp,scase,Act.eval]
  done
 .go_wp2_with fail
  refine Cn ?_
  go_wp2
  go_ret
  exact⟨rfl,rfl⟩

def PushPost(mb c cap base x:Nat)(v0 v1 v2 v6 v7 lv:Value)(stk:List Nat)(deep:Nat)(w:World)(e:Ending)(w':World):Prop:=
 e=.returned (.bool true)/\∃ lv',StackAt w' mb c cap base v0 v1 v2 v6 v7 lv' (stk++[x]) (max deep (stk.length+1))/\(∀ b,lv'.ownBlock=some b->lv.ownBlock=some b\/w.heap.size<=b)/\Kp (λ k=>k=mb\/k=c\/lv.ownBlock=some k) w w'

theorem set8_4{w:World}{b:Nat}{a c d e j f g i:Value}{T:TypeId}(k:w.heap[b]?=some (.cells #[a,c,d,e,j,f,g,i] T (0,0)))(v:Value):(w.setCell ⟨b,4,none⟩ v).heap[b]?=some (.cells #[a,c,d,e,v,f,g,i] T (0,0)):=by
 rw[bZ k]
 rfl

theorem set8_5{w:World}{b:Nat}{a c d e f j g i:Value}{T:TypeId}(k:w.heap[b]?=some (.cells #[a,c,d,e,f,j,g,i] T (0,0)))(v:Value):(w.setCell ⟨b,5,none⟩ v).heap[b]?=some (.cells #[a,c,d,e,f,v,g,i] T (0,0)):=by
 rw[bZ k]
 rfl

theorem chan_setChan{w:World}{c cap:Nat}{buf:Array Value}{a:Bool}{s r:Nat}{tm:Bool}(b:c<w.heap.size):(w.setChan c cap buf a s r tm).heap[c]?=some (.chan cap buf a s r tm):=by
 simp[World.setChan,b]

set_option maxRecDepth 20000 in
theorem Push_room(mb c cap base x:Nat)(v0 Z a0 a1 a2 A:Value)(f:List Nat)(n:Nat)(w:World)(a:StackAt w mb c cap base v0 Z a0 a1 a2 A f n)(d9:f.length<cap)(e5:base<=w.heap.size):
  Calls prog 169 #[.pointer (some ⟨mb,3,none⟩),x] w (PushPost mb c cap base x v0 Z a0 a1 a2 A f n w):=by
 obtain⟨L,M,N,O,l,P,Q,R⟩:=Cs a.blk
 obtain⟨buf,s,r,T,g⟩:=a.ch
 have t:=a.ne
 have d8:=lZ T
 have c0:=a.c_lt
 have c4:=a.mb_lt
 have b9:=a.cap_le
 have e6:=a.deep_le
 have d6:=sE T
 have d3:Sl (buf.size<cap):=⟨by omega⟩
 have a5:=sE g
 obtain⟨w1,H⟩:∃ w1,w1=w.setChan c cap (buf.push (.agg #[])) false (s+1) r false:=⟨_,rfl⟩
 have y:Kp (λ k=>k=c) w w1:=by rw[H];exact (Kr (λ k=>k=c) w).setChan (λ _=>rfl) _ _ _ _ _ _
 have a9:w1.heap[c]?=some (.chan cap (buf.push (.agg #[])) false (s+1) r false):=by rw[H];exact chan_setChan d8
 have S:=y.at_ a.blk t
 have d2:=Af a.row y (λ b g e=>by have:=(Ad a.row g).1;omega)
 have e9:=y.size
 have B:=sE y
 have a6:=sE a9
 have d5:=sE S
 have D:=sE d2
 have J:Sl (f.length+1<=cap):=⟨d9⟩
 have e7:f.length<=65536:=by omega
 clear a T g y a9 d2
 refine EF func169 rfl ?_
 simp only[ntmps169,List.size_toArray,List.length_cons,List.length_nil,Nat.reduceAdd,Nat.reduceSub,Array.replicate_succ,Array.replicate_zero,List.push_toArray,List.append_toArray,List.nil_append,List.cons_append]
 refine Dr (Cn ?_)
 go_wp2_with fail
 refine Dr ?_
 refine Cn ?_
 go_wp2_with fail
 refine Dr ?_
 refine wpN_send_room (c:=c) (cap:=cap) (buf:=buf) (s:=s) (r:=r) (tm:=false) (v:=.agg #[]) (z:=.agg #[]) ?_ ?_ d6.o d3.o ?_
 .kernel_rfl
 .simp [go_sem,execOp,scase,Act.eval]
  done
 .rw [<- H]
  clear H L M N O l P Q R
  obtain⟨L,M,N,O,l,P,Q,R⟩:=Cs S
  clear S
  go_wp2_with fail
  refine Cn ?_
  go_wp2_with (at_builtin;obtain ⟨e2,c3,c8,c9,d0⟩:=info_parts Be;go_loud (refine wpList_append_lies _ rfl (.tmp 17) (.tmp 19) 24 rfl base 3 e2 _ 1 8 Ar c3 c8 c9 d0 rfl (by omega) A f.length (Az f) rfl (D.o.alloc _) ⟨w1.heap.size,0,none⟩ 1 1 [x] rfl rfl (World.news_of_block (wN w1 _)) (by intro u c7;simp at c7;subst c7;rfl) (by omega) (by unfold maxLen;omega) (by omega) (by simp;omega) (w1.heap.size+1) (by simp) ?_);intro p G q c6 c2 b8 e8;clear c3 c8 c9 d0;have e0:¬ A.ownBlock=some mb:=λ a=>(by have:=(Ad D.o a).1;omega);have X:Kp (λ k=>A.ownBlock=some k) w1 q:=((Kr Aa w1).alloc _ |>.Aw _).grown c2 (λ k e a=>by first|exact a|(injection e with e;subst e;assumption)|exact e);have F:=X.at_ d5.o e0;have d7:=Ab F 4;obtain ⟨b0,b1,b2,b3,b4,b5,b6,b7⟩:=Cs F;have E:=sE c6;have d4:=sE F;have C:=sE X;have a3:=sE b8;clear c6 c2 b8 F X L M N O l P Q R)
  obtain⟨j,I⟩:∃ j,j=q.setCell ⟨mb,4,none⟩ (.slice (some ⟨p,0,none⟩) (f.length+1) G):=⟨_,rfl⟩
  have d1:Kp (λ k=>k=mb) q j:=by rw[I];exact (Kr (λ k=>k=mb) q).setCell (λ _=>rfl) _
  have l:j.heap[mb]?=some (.cells #[v0,Z,a0,.chan (some c),.slice (some ⟨p,0,none⟩) (f.length+1) G,n,a1,a2] 213 (0,0)):=by rw[I];exact set8_4 d4.o _
  rw[<- I]
  clear I b0 b1 b2 b3 b4 b5 b6 b7 d7
  obtain⟨b0,b1,b2,b3,b4,b5,b6,b7⟩:=Cs l
  have e4:=Ab l 5
  have a4:=sE l
  have a8:=sE d1
  clear d1 l
  obtain⟨d,c1⟩:∃ d,max n (f.length+1)=d:=⟨_,rfl⟩
  have a7:Sl (d<=cap):=⟨by have:=J.o;omega⟩
  have m:=sE c1
  have c5:max (n:Int) ((f.length:Int)+1)=(d:Nat):=by omega
  have e3:=sE c5
  clear c1 c5
  refine Br 13 (by kernel_rfl) (by kernel_rfl) ?_
  simp only[List.take_succ_cons,List.take_zero,List.drop_succ_cons,List.drop_zero]
  repeat (go_big_quiet_step (fail))
  refine wpQuiet_nil ?_
  intro _ hw'
  obtain⟨nq,e1⟩:=hw'
  subst e1
  go_wp2_with fail
  .have U:((f.length:Int)+1)=(d:Nat):=by have:=m.o;omega
   rw[U]
   go_ret
   have Y:Kp (λ k=>k=mb) j ((j.drewN nq).setCell ⟨mb,5,none⟩ (.int .i64 (d:Nat))):=((Kr (λ k=>k=mb) j).drewN _).setCell (λ _=>rfl) _
   have K:Kp (λ k=>k=mb) q _:=a8.o.trans Y (λ _ _ a=>a)
   have W:∀ b,(Value.slice (some ⟨p,0,none⟩) (f.length+1) G).ownBlock=some b->base<=b:=λ b a=>(Ad E.o a).1
   refine⟨rfl,_,⟨by have:=set8_5 (w:=j.drewN nq) a4.o (.int .i64 (d:Nat));rw [m.o];exact this,⟨_,_,_,K.at_ (C.o.at_ a6.o (λ a=>by have:=(Ad D.o a).1;omega)) (λ a=>t a.symm),by simp[a5.o]⟩,?_,by simpa using J.o,b9,by rw[m.o];exact a7.o,c4,c0,t⟩,λ b g=>?_,?_⟩
   .rw [Az,List.map_append,List.length_append]
    exact Af E.o K (λ b g e=>by have:=W b g;omega)
   .have V:p=b:=by simpa [Value.ownBlock] using g
    subst V
    rcases a3.o with a|a
    .exact .inl a
    .right
     rw[a]
     have:=B.o.size
     simp
     omega
   .exact (((B.o.mono λ i _ a=>.inr (.inl a)).trans C.o (λ i _ a=>.inr (.inr a))).trans K (λ i _ a=>.inl a))
  .have U:(n:Int)=(d:Nat):=by have:=m.o;omega
   rw[U]
   go_ret
   have Y:Kp (λ k=>k=mb) j ((j.drewN nq).setCell ⟨mb,5,none⟩ (.int .i64 (d:Nat))):=((Kr (λ k=>k=mb) j).drewN _).setCell (λ _=>rfl) _
   have K:Kp (λ k=>k=mb) q _:=a8.o.trans Y (λ _ _ a=>a)
   have W:∀ b,(Value.slice (some ⟨p,0,none⟩) (f.length+1) G).ownBlock=some b->base<=b:=λ b a=>(Ad E.o a).1
   refine⟨rfl,_,⟨by have:=set8_5 (w:=j.drewN nq) a4.o (.int .i64 (d:Nat));rw [m.o];exact this,⟨_,_,_,K.at_ (C.o.at_ a6.o (λ a=>by have:=(Ad D.o a).1;omega)) (λ a=>t a.symm),by simp[a5.o]⟩,?_,by simpa using J.o,b9,by rw[m.o];exact a7.o,c4,c0,t⟩,λ b g=>?_,?_⟩
   .rw [Az,List.map_append,List.length_append]
    exact Af E.o K (λ b g e=>by have:=W b g;omega)
   .have V:p=b:=by simpa [Value.ownBlock] using g
    subst V
    rcases a3.o with a|a
    .exact .inl a
    .right
     rw[a]
     have:=B.o.size
     simp
     omega
   .exact (((B.o.mono λ i _ a=>.inr (.inl a)).trans C.o (λ i _ a=>.inr (.inr a))).trans K (λ i _ a=>.inl a))

set_option maxRecDepth 20000 in
theorem Pop_none(mb c cap base:Nat)(v0 j k l m i:Value)(g:Nat)(w:World)(a:StackAt w mb c cap base v0 j k l m i [] g):
  Calls prog 170 #[.pointer (some ⟨mb,3,none⟩)] w λ e w'=>e=.returned (.tuple #[(0:Int),.bool false])/\w'=w:=by
 obtain⟨n,p,q,t,u,v,x,y⟩:=Cs a.blk
 obtain⟨buf,s,r,d,b⟩:=a.ch
 obtain rfl:buf=#[]:=by simpa using b
 have f:=sE d
 clear a d b
 refine EF func170 rfl ?_
 simp only[ntmps170,List.size_toArray,List.length_cons,List.length_nil,Nat.reduceAdd,Nat.reduceSub,Array.replicate_succ,Array.replicate_zero,List.push_toArray,List.append_toArray,List.nil_append,List.cons_append]
 refine Dr (Cn ?_)
 go_wp2_with fail
 refine Dr ?_
 refine Cn ?_
 go_wp2_with fail
 refine Dr ?_
 refine wpN_recv_empty (c:=c) (cap:=cap) (s:=s) (r:=r) (tm:=false) (z:=.agg #[]) ?_ ?_ f.o ?_
 .kernel_rfl
 .simp [go_sem,execOp,rcase,Act.eval]
  done
 .go_wp2_with fail
  refine Cn ?_
  go_wp2
  go_ret2
  exact⟨rfl,rfl⟩

def PopPost(mb c cap base x:Nat)(v0 v1 v2 v6 v7 lv:Value)(stk:List Nat)(deep:Nat)(w:World)(e:Ending)(w':World):Prop:=
 e=.returned (.tuple #[x,.bool true])/\∃ lv',StackAt w' mb c cap base v0 v1 v2 v6 v7 lv' stk deep/\(∀ b,lv'.ownBlock=some b->lv.ownBlock=some b)/\Kp (λ k=>k=mb\/k=c) w w'

theorem row_last{w:World}{base:Nat}{v:Value}{xs:List Nat}{x n:Nat}(l:w.ownsRow base 3 1 v (xs++[x]).length (Az (xs++[x])))(p:xs.length=n):
  ∃ g cap,v=.slice (some ⟨g,0,none⟩) (n+1) cap/\base<=g/\n+1<=cap/\cap<=maxLen/\w.cell? ⟨g,n,none⟩=some (.int .i64 x)/\w.ownsRow base 3 1 (.slice (some ⟨g,0,none⟩) n cap) xs.length (Az xs):=by
 subst p
 rcases l.2 with ⟨-,m⟩|⟨g,cap,b,rfl,c,d,e,f,k,a⟩
 .simp at m
 .rw [Nat.mul_one] at a
  have o:(xs++[x]).length=xs.length+1:=by simp
  rw[o] at e a ⊢
  refine⟨g,cap,rfl,c,e,f,?_,⟨by simp[Az],.inr ⟨g,cap,b,rfl,c,d,by omega,f,k,?_⟩⟩⟩
  .have:b.toList[xs.length]?=some (.int .i64 x):=by
    rw[<- List.getElem?_take_of_lt (j:=xs.length+1) (by omega),a]
    simp[Az]
   simp only[World.cell?,d]
   rw[<- this]
   simp
  .have i:=congrArg (List.take xs.length) a
   rw[List.take_take,Nat.min_eq_left (by omega)] at i
   rw[Nat.mul_one,i]
   simp[Az]

set_option maxRecDepth 20000 in
theorem Pop_some(mb c cap base x:Nat)(v0 Q R S T L:Value)(f:List Nat)(J:Nat)(w:World)(a:StackAt w mb c cap base v0 Q R S T L (f++[x]) J)(b1:base<=w.heap.size):
  Calls prog 170 #[.pointer (some ⟨mb,3,none⟩)] w (PopPost mb c cap base x v0 Q R S T L f J w):=by
 obtain⟨n,l⟩:∃ n,f.length=n:=⟨_,rfl⟩
 obtain⟨A,B,C,D,E,F,G,H⟩:=Cs a.blk
 obtain⟨buf,s,r,t,d⟩:=a.ch
 have u:=a.ne
 have a4:=lZ t
 have a3:=a.c_lt
 have a8:=a.mb_lt
 have a2:=a.cap_le
 have a5:=a.deep_le
 have a7:=a.le
 have K:(f++[x]).length=n+1:=by simp[l]
 rw[K] at a7 d
 have W:=sE t
 have U:Sl (0<buf.size):=⟨by omega⟩
 obtain⟨w1,m⟩:∃ w1,w1=w.setChan c cap (buf.extract 1 buf.size) false s (r+1) false:=⟨_,rfl⟩
 have p:Kp (λ k=>k=c) w w1:=by rw[m];exact (Kr (λ k=>k=c) w).setChan (λ _=>rfl) _ _ _ _ _ _
 have I:w1.heap[c]?=some (.chan cap (buf.extract 1 buf.size) false s (r+1) false):=by rw[m];exact chan_setChan a4
 have j:=p.at_ a.blk u
 have N:=Af a.row p (λ b d e=>by have:=(Ad a.row d).1;omega)
 obtain⟨g,q,rfl,b3,b4,a6,b0,O⟩:=row_last N l
 have Z:Sl ((buf.extract 1 buf.size).size=f.length):=⟨by simp;omega⟩
 have Y:=sE p
 have X:=sE I
 have V:=sE j
 have y:=sE O
 have b7:n<=65536:=by omega
 have b8:IntKind.i64.wrap ((n:Int)+1-1)=(n:Nat):=by rw[IntKind.wrap_i64];omega
 have b6:(n:Int)<(n:Int)+1:=by omega
 have b5:(n:Int)<=(q:Int):=by omega
 clear a t d p I N O K a6
 refine EF func170 rfl ?_
 simp only[ntmps170,List.size_toArray,List.length_cons,List.length_nil,Nat.reduceAdd,Nat.reduceSub,Array.replicate_succ,Array.replicate_zero,List.push_toArray,List.append_toArray,List.nil_append,List.cons_append]
 refine Dr (Cn ?_)
 go_wp2_with fail
 refine Dr ?_
 refine Cn ?_
 go_wp2_with fail
 refine Dr ?_
 refine wpN_recv_buf (c:=c) (cap:=cap) (buf:=buf) (closed:=false) (s:=s) (r:=r) (tm:=false) (z:=.agg #[]) ?_ ?_ W.o U.o ?_
 .kernel_rfl
 .simp [go_sem,execOp,rcase,Act.eval]
  done
 .rw [<- m]
  clear m A B C D E F G H
  obtain⟨A,B,C,D,E,F,G,H⟩:=Cs j
  have b2:=Ab j 4
  clear j
  go_wp2_with fail
  refine Cn ?_
  go_wp2_with fail
  go_quiet (fail)
  go_wp2_with fail
  refine Br 14 (by kernel_rfl) (by kernel_rfl) ?_
  simp only[List.take_succ_cons,List.take_zero,List.drop_succ_cons,List.drop_zero]
  repeat (go_big_quiet_step (fail))
  refine wpQuiet_nil ?_
  intro _ hw'
  obtain⟨nq,a9⟩:=hw'
  subst a9
  go_wp2_with fail
  rename_i M
  have v:Kp (λ k=>k=mb) w1 ((w1.drewN (M+nq)).setCell ⟨mb,4,none⟩ (.slice (some ⟨g,0,none⟩) n q)):=((Kr (λ k=>k=mb) w1).drewN _).setCell (λ _=>rfl) _
  have a0:=set8_4 (w:=w1.drewN (M+nq)) V.o (.slice (some ⟨g,0,none⟩) n q)
  have P:=Af y.o v (λ b d e=>by have:=(Ad y.o d).1;omega)
  have a1:=v.at_ X.o (λ a=>u a.symm)
  rw[l] at P
  go_ret2
  exact⟨rfl,_,⟨a0,⟨_,_,_,a1,Z.o⟩,by rw[l];exact P,by omega,a2,a5,a8,a3,u⟩,λ b d=>d,(Y.o.mono λ i _ a=>.inr a).trans v (λ i _ a=>.inl a)⟩

structure MS where
 f:Nat->Bool
 full:Bool
 n:Nat
 stk:List Nat
 deep:Nat

def markR(cap:Nat)(S:MS)(g:Nat):MS:=
 if S.f g=true then S else if S.stk.length<cap then ⟨Ck S.f g 1 true,S.full,S.n+1,S.stk++[g],max S.deep (S.stk.length+1)⟩ else ⟨Ck S.f g 1 true,true,S.n+1,S.stk,S.deep⟩

theorem countP_point(f:Nat->Bool)(g:Nat)(a:f g=false):∀ n,(List.range n).countP (Ck f g 1 true)=(List.range n).countP f+(if g<n then 1 else 0)
 |0=>rfl
 |n+1=>by
  rw[List.range_succ,List.countP_append,List.countP_append,countP_point f g a n]
  by_cases h:n=g
  .subst h
   simp[Ck,a]
  .have b:Ck f g 1 true n=f n:=by unfold Ck;rw [if_neg (by omega)]
   simp only[List.countP_cons,List.countP_nil,b]
   by_cases h2:g<n
   .rw [if_pos h2,if_pos (show g<n+1 by omega)]
    omega
   .rw [if_neg h2,if_neg (show ¬ g<n+1 by omega)]
    omega

structure MarkAt(w:World)(mb c cap base:Nat)(v0:Value)(sp sq mp mq H:Nat)(fs:Nat->Bool)(lv:Value)(S:MS):Prop where
 st:StackAt w mb c cap base v0 (.pointer (some sp)) (.pointer (some mp)) (.bool S.full) (.int .i64 S.n) lv S.stk S.deep
 sb:AL w sp sq fs H
 mbits:AL w mp mq S.f H
 cnt:S.n=(List.range H).countP S.f
 ap:sp<base/\sq<base/\mp<base/\mq<base
 ne:¬ mb=sp/\¬ mb=sq/\¬ mb=mp/\¬ mb=mq/\¬ c=sp/\¬ c=sq/\¬ c=mp/\¬ c=mq/\¬ mq=sp/\¬ mq=sq
 bz:base<=w.heap.size

def MarkS(mb c mq:Nat)(lv:Value):Nat->Prop:=λ k=>k=mb\/k=c\/k=mq\/lv.ownBlock=some k

def MarkPost(mb c cap base:Nat)(v0:Value)(sp sq mp mq H:Nat)(fs:Nat->Bool)(lv:Value)(S:MS)(w:World)(e:Ending)(w':World):Prop:=
 e=.returned (.tuple #[])/\∃ lv',MarkAt w' mb c cap base v0 sp sq mp mq H fs lv' S/\(∀ b,lv'.ownBlock=some b->lv.ownBlock=some b\/w.heap.size<=b)/\Kp (MarkS mb c mq lv) w w'

theorem set8_6{w:World}{b:Nat}{a c d e f g j i:Value}{T:TypeId}(k:w.heap[b]?=some (.cells #[a,c,d,e,f,g,j,i] T (0,0)))(v:Value):(w.setCell ⟨b,6,none⟩ v).heap[b]?=some (.cells #[a,c,d,e,f,g,v,i] T (0,0)):=by
 rw[bZ k]
 rfl

theorem set8_7{w:World}{b:Nat}{a c d e f g i j:Value}{T:TypeId}(k:w.heap[b]?=some (.cells #[a,c,d,e,f,g,i,j] T (0,0)))(v:Value):(w.setCell ⟨b,7,none⟩ v).heap[b]?=some (.cells #[a,c,d,e,f,g,i,v] T (0,0)):=by
 rw[bZ k]
 rfl

theorem StackAt.turn{w w':World}{mb c cap base d:Nat}{v0 i j m n u6 u7 g:Value}{l:List Nat}(a:StackAt w mb c cap base v0 i j m n g l d)(k:Kp (λ k=>k=mb) w w')
  (f:w'.heap[mb]?=some (.cells #[v0,i,j,.chan (some c),g,d,u6,u7] 213 (0,0))):StackAt w' mb c cap base v0 i j u6 u7 g l d:=
 have ⟨buf,s,r,hc,hs⟩:=a.ch
 ⟨f,⟨buf,s,r,k.at_ hc (λ e=>a.ne e.symm),hs⟩,Af a.row k (λ b f e=>by have:=(Ad a.row f).1;have:=a.mb_lt;omega),a.le,a.cap_le,a.deep_le,a.mb_lt,a.c_lt,a.ne⟩

theorem StackAt.keep{S:Nat->Prop}{w w':World}{mb c cap base d:Nat}{v0 i j l m f:Value}{g:List Nat}(a:StackAt w mb c cap base v0 i j l m f g d)(k:Kp S w w')(n:¬ S mb)(o:¬ S c)(p:∀ b,base<=b->b<w.heap.size->¬ S b):StackAt w' mb c cap base v0 i j l m f g d:=
 have ⟨buf,s,r,hc,hs⟩:=a.ch
 ⟨k.at_ a.blk n,⟨buf,s,r,k.at_ hc o,hs⟩,Af a.row k (λ b e=>p b (Ad a.row e).1 (Ad a.row e).2),a.le,a.cap_le,a.deep_le,a.mb_lt,a.c_lt,a.ne⟩

theorem MarkAt.keep{S:Nat->Prop}{w w':World}{mb c cap base:Nat}{v0:Value}{sp sq mp mq H:Nat}{fs:Nat->Bool}{i:Value}{M:MS}(d:MarkAt w mb c cap base v0 sp sq mp mq H fs i M)(k:Kp S w w')(f:∀ b,S b->w.heap.size<=b):MarkAt w' mb c cap base v0 sp sq mp mq H fs i M:=
 have g:=d.st
 have z:=d.bz
 have a:=d.ap
 have l:=g.mb_lt
 have m:=g.c_lt
 ⟨g.keep k (λ e=>by have:=f _ e;omega) (λ e=>by have:=f _ e;omega) (λ b _ j e=>by have:=f _ e;omega),
  d.sb.keep k (λ e=>by have:=f _ e;omega) (λ e=>by have:=f _ e;omega),d.mbits.keep k (λ e=>by have:=f _ e;omega) (λ e=>by have:=f _ e;omega),d.cnt,d.ap,d.ne,Nat.le_trans z k.size⟩

set_option maxRecDepth 20000 in
theorem Mark_at(mb c cap base:Nat)(v0:Value)(sp sq mp mq H:Nat)(fs:Nat->Bool)(l:Value)(S:MS)(g:Nat)(U:g<H)(w:World)(d:MarkAt w mb c cap base v0 sp sq mp mq H fs l S):
  Calls prog 123 #[.pointer (some mb),g] w (MarkPost mb c cap base v0 sp sq mp mq H fs l (markR cap S g) w):=by
 have V:=d.st
 obtain⟨r,s,t,u,v,x,y,z⟩:=Cs V.blk
 have Q:=sE d
 have b3:=sE V
 clear d V
 go_enter func123,ntmps123
 go_wp2_with fail
 refine(Has_in g H mp mq S.f _ Q.o.mbits U).mono ?_
 rintro e w1 ⟨rfl,B⟩
 have R:=sE B
 rcases hfg:S.f g with _|_
 .have a2:=sE hfg
  clear hfg r s t u v x y z
  have a5:=Q.o.keep B (λ b e=>e.elim)
  have j:=sE a5
  have Y:=b3.o.keep B (λ e=>e.elim) (λ e=>e.elim) (λ _ _ _ e=>e.elim)
  obtain⟨r,s,t,u,v,x,y,z⟩:=Cs Y.blk
  have b4:=sE Y
  clear a5 Y B
  go_wp2_with fail
  refine(Set_yes g H mp mq S.f _ j.o.mbits U).mono ?_
  rintro e w2 ⟨rfl,M,a6⟩
  have a:=j.o.ne
  have D:=j.o.ap
  have c1:=j.o.bz
  have a7:=j.o.cnt
  have c3:=j.o.mbits.FQ
  have I:=countP_point S.f g a2.o H
  rw[if_pos U,<- a7] at I
  have c2:S.n+1<=H:=by rw[<- I];exact Nat.le_trans List.countP_le_length (by simp)
  have O:=b4.o.keep M (λ e=>a.2.2.2.1 e) (λ e=>a.2.2.2.2.2.2.2.1 e) (λ b A _ e=>by omega)
  have b0:=j.o.sb.keep M (λ e=>a.2.2.2.2.2.2.2.2.1 e.symm) (λ e=>a.2.2.2.2.2.2.2.2.2 e.symm)
  have F:=sE M
  have a0:=sE a6
  have a3:=sE O
  have a4:=sE b0
  have a1:=sE I
  clear r s t u v x y z a6 b0 I a7 a D
  obtain⟨r,s,t,u,v,x,y,z⟩:=Cs O.blk
  have b6:=Ab O.blk 7
  clear O
  go_wp2_with fail
  obtain⟨q,L⟩:∃ q,q=w2.setCell ⟨mb,7,none⟩ (.int .i64 ((S.n:Int)+1)):=⟨_,rfl⟩
  have N:Kp (λ k=>k=mb) w2 q:=by rw[L];exact (Kr (λ k=>k=mb) w2).setCell (λ _=>rfl) _
  have b1:=a3.o.turn N (u6:=.bool S.full) (u7:=.int .i64 ((S.n+1:Nat):Int)) (by rw[L];exact set8_7 a3.o.blk _)
  rw[<- L]
  clear L r s t u v x y z b6
  have X:base<=q.heap.size:=by have:=F.o.size;have:=N.size;omega
  have p:=sE N
  have m:=sE b1
  have J:¬ S.f g=true:=by rw[a2.o];exact Bool.false_ne_true
  clear b1 M N
  by_cases hroom:S.stk.length<cap
  .have C:markR cap S g=⟨Ck S.f g 1 true,S.full,S.n+1,S.stk++[g],max S.deep (S.stk.length+1)⟩:=by rw[markR,if_neg J,if_pos hroom]
   have T:=sE C
   clear C J
   refine(Push_room mb c cap base g _ _ _ _ _ l S.stk S.deep q m.o hroom X).mono ?_
   rintro e P ⟨rfl,b8,b2,b7,a9⟩
   have G:=sE a9
   have b5:=sE b2
   clear b2 a9 hroom
   go_wp2_with fail
   go_end0
   rw[T.o]
   have a:=j.o.ne
   have D:=j.o.ap
   have K:∀ b,base<=b\/¬ l.ownBlock=some b:=λ b=>by
    by_cases e:l.ownBlock=some b
    .exact .inl (Ad m.o.row e).1
    .exact .inr e
   refine⟨rfl,b8,⟨b5.o,?_,?_,a1.o.symm,D,j.o.ne,Nat.le_trans X G.o.size⟩,λ b A=>?_,?_⟩
   .exact (a4.o.keep p.o (λ e=>a.1 e.symm) (λ e=>a.2.1 e.symm)).keep G.o (λ e=>by rcases e with e|e|e;exact a.1 e.symm;exact a.2.2.2.2.1 e.symm;exact (by have:=K sp;rcases this with d|d;omega;exact d e)) (λ e=>by rcases e with e|e|e;exact a.2.1 e.symm;exact a.2.2.2.2.2.1 e.symm;exact (by have:=K sq;rcases this with d|d;omega;exact d e))
   .exact (a0.o.keep p.o (λ e=>a.2.2.1 e.symm) (λ e=>a.2.2.2.1 e.symm)).keep G.o (λ e=>by rcases e with e|e|e;exact a.2.2.1 e.symm;exact a.2.2.2.2.2.2.1 e.symm;exact (by have:=K mp;rcases this with d|d;omega;exact d e)) (λ e=>by rcases e with e|e|e;exact a.2.2.2.1 e.symm;exact a.2.2.2.2.2.2.2.1 e.symm;exact (by have:=K mq;rcases this with d|d;omega;exact d e))
   .rcases b7 b A with d|d
    .exact .inl d
    .right
     have:=R.o.size
     have:=F.o.size
     have:=p.o.size
     omega
   .exact ((R.o.mono λ_ _ e=>e.elim).trans (F.o) (λ i _ e=>.inr (.inr (.inl e)))).trans ((show Kp (MarkS mb c mq l) w2 q from p.o.mono (λ i _ e=>.inl e)).trans G.o (λ i _ e=>by rcases e with e|e|e;exact .inl e;exact .inr (.inl e);exact .inr (.inr (.inr e)))) (λ i _ e=>e)
  .have a8:S.stk.length=cap:=by have:=m.o.le;omega
   have C:markR cap S g=⟨Ck S.f g 1 true,true,S.n+1,S.stk,S.deep⟩:=by rw[markR,if_neg J,if_neg hroom]
   have T:=sE C
   clear C J hroom
   refine(Push_full mb c cap base g _ _ _ _ _ l S.stk S.deep q m.o a8).mono ?_
   rintro e P ⟨rfl,rfl⟩
   have c0:=Ab m.o.blk 6
   obtain⟨r,s,t,u,v,x,y,z⟩:=Cs m.o.blk
   clear a8
   go_wp2_with fail
   obtain⟨Z,W⟩:∃ Z,Z=P.setCell ⟨mb,6,none⟩ (.bool true):=⟨_,rfl⟩
   have E:Kp (λ k=>k=mb) P Z:=by rw[W];exact (Kr (λ k=>k=mb) P).setCell (λ _=>rfl) _
   have b9:=m.o.turn E (u6:=.bool true) (u7:=.int .i64 ((S.n+1:Nat):Int)) (by rw[W];exact set8_6 m.o.blk _)
   rw[<- W]
   go_end0
   rw[T.o]
   have a:=j.o.ne
   have D:=j.o.ap
   refine⟨rfl,l,⟨b9,?_,?_,a1.o.symm,D,j.o.ne,Nat.le_trans X E.size⟩,λ b A=>.inl A,?_⟩
   .exact (a4.o.keep p.o (λ e=>a.1 e.symm) (λ e=>a.2.1 e.symm)).keep E (λ e=>a.1 e.symm) (λ e=>a.2.1 e.symm)
   .exact (a0.o.keep p.o (λ e=>a.2.2.1 e.symm) (λ e=>a.2.2.2.1 e.symm)).keep E (λ e=>a.2.2.1 e.symm) (λ e=>a.2.2.2.1 e.symm)
   .exact ((R.o.mono λ_ _ e=>e.elim).trans (F.o) (λ i _ e=>.inr (.inr (.inl e)))).trans (p.o.trans E (λ i _ e=>e)) (λ i _ e=>.inl e)
 .go_wp2_with fail
  go_end0
  refine⟨rfl,l,?_,λ b A=>.inl A,B.mono λ_ _ d=>d.elim⟩
  have:markR cap S g=S:=by rw[markR,if_pos hfg]
  rw[this]
  exact Q.o.keep B (λ b e=>e.elim)

open Go.RowKit

inductive MReach (KF:Nat->List Nat) (rs:Nat->Prop):Nat->Prop
 |root {g:Nat}:rs g->MReach KF rs g
 |step {g k:Nat}:MReach KF rs g->k∈KF g->MReach KF rs k

structure MInv(KF:Nat->List Nat)(T rs:Nat->Prop)(cap:Nat)(X:Nat->Prop)(S:MS):Prop where
 re:∀ g,S.f g=true->T g/\MReach KF rs g
 st:∀ g∈S.stk,S.f g=true
 ln:S.stk.length<=S.n
 fl:S.full=true->cap<S.n
 cl:S.full=false->∀ g,S.f g=true->g∈S.stk\/X g\/∀ k∈KF g,S.f k=true

structure MExt(S S':MS):Prop where
 f:∀ g,S.f g=true->S'.f g=true
 n:S.n<=S'.n
 up:S.full=true->S'.full=true
 dn:S'.full=true->S.full=true\/S.n<S'.n
 mu:S'.stk.length+2*S.n<=S.stk.length+2*S'.n

theorem MExt.refl(S:MS):MExt S S:=⟨λ _ h=>h,Nat.le_refl _,λ h=>h,λ h=>.inl h,Nat.le_refl _⟩

theorem MExt.trans{b c C:MS}(a:MExt b c)(k:MExt c C):MExt b C:=
 ⟨λ g e=>k.f g (a.f g e),Nat.le_trans a.n k.n,λ e=>k.up (a.up e),λ e=>by
  have d:=a.n
  have i:=k.n
  rcases k.dn e with e|e
  .rcases a.dn e with e|e
   .exact .inl e
   .exact .inr (by omega)
  .exact .inr (by omega),by have:=a.mu;have:=k.mu;omega⟩

theorem Cf{f:Nat->Bool}{g k:Nat}:Ck f g 1 true k=true ↔ k=g\/f k=true:=by
 unfold Ck
 by_cases h:g<=k/\k<g+1
 .rw [if_pos h]
  exact⟨λ _=>.inl (by omega),λ _=>rfl⟩
 .rw [if_neg h]
  exact⟨λ e=>.inr e,λ e=>e.elim (λ e=>absurd ⟨by omega,by omega⟩ h) id⟩

theorem markR_inv{KF:Nat->List Nat}{T rs:Nat->Prop}{cap:Nat}{X:Nat->Prop}{S:MS}(b:MInv KF T rs cap X S){g:Nat}(i:T g)(d:MReach KF rs g):MInv KF T rs cap X (markR cap S g)/\(markR cap S g).f g=true/\MExt S (markR cap S g):=by
 unfold markR
 by_cases h1:S.f g=true
 .rw [if_pos h1]
  exact⟨b,h1,MExt.refl S⟩
 .rw [if_neg h1]
  by_cases h2:S.stk.length<cap
  .rw [if_pos h2]
   refine⟨⟨λ x a=>?_,λ x a=>?_,?_,λ c=>?_,λ c x a=>?_⟩,Cf.2 (.inl rfl),⟨λ x a=>Cf.2 (.inr a),Nat.le_succ _,λ e=>e,λ e=>.inl e,?_⟩⟩
   .rcases Cf.1 a with e|e
    .subst e
     exact⟨i,d⟩
    .exact b.re x e
   .rcases List.mem_append.1 a with e|e
    .exact Cf.2 (.inr (b.st x e))
    .exact Cf.2 (.inl (by simpa using e))
   .have:=b.ln
    simp
    omega
   .have:=b.fl c
    show cap<S.n+1
    omega
   .rcases Cf.1 a with e|e
    .subst e
     exact .inl (by simp)
    .rcases b.cl c x e with e|e|e
     .exact .inl (by simp[e])
     .exact .inr (.inl e)
     .exact .inr (.inr λ k j=>Cf.2 (.inr (e k j)))
   .simp
    omega
  .rw [if_neg h2]
   refine⟨⟨λ x a=>?_,λ x a=>Cf.2 (.inr (b.st x a)),Nat.le_succ_of_le b.ln,λ c=>?_,λ c=>by cases c⟩,Cf.2 (.inl rfl),⟨λ x a=>Cf.2 (.inr a),Nat.le_succ _,λ e=>rfl,λ e=>.inr (Nat.lt_succ_self _),?_⟩⟩
   .rcases Cf.1 a with e|e
    .subst e
     exact⟨i,d⟩
    .exact b.re x e
   .have:=b.ln
    show cap<S.n+1
    omega
   .simp
    omega

theorem MInv.pop{KF:Nat->List Nat}{T rs:Nat->Prop}{cap:Nat}{X:Nat->Prop}{S:MS}{d:List Nat}{g:Nat}(a:MInv KF T rs cap X S)(b:S.stk=d++[g]):MInv KF T rs cap (λ x=>X x\/x=g) ⟨S.f,S.full,S.n,d,S.deep⟩/\S.f g=true:=by
 refine⟨⟨a.re,λ x c=>a.st x (by rw[b];simp [c]),?_,a.fl,λ i x c=>?_⟩,a.st g (by rw[b];simp)⟩
 .have:=a.ln
  rw[b] at this
  simp at this
  show d.length<=S.n
  omega
 .rcases a.cl i x c with e|e|e
  .rw [b] at e
   rcases List.mem_append.1 e with e|e
   .exact .inl e
   .exact .inr (.inl (.inr (by simpa using e)))
  .exact .inr (.inl (.inl e))
  .exact .inr (.inr e)

theorem MInv.close{KF:Nat->List Nat}{T rs:Nat->Prop}{cap:Nat}{X:Nat->Prop}{S:MS}{g:Nat}(a:MInv KF T rs cap (λ x=>X x\/x=g) S)(c:∀ k∈KF g,S.f k=true):MInv KF T rs cap X S:=
 ⟨a.re,a.st,a.ln,a.fl,λ b x d=>by
  rcases a.cl b x d with e|(e|e)|e
  .exact .inl e
  .exact .inr (.inl e)
  .exact .inr (.inr (by rw[e];exact c))
  .exact .inr (.inr e)⟩

theorem MInv.mono{KF:Nat->List Nat}{T rs:Nat->Prop}{cap:Nat}{X Y:Nat->Prop}{S:MS}(a:MInv KF T rs cap X S)(d:∀ g,X g->Y g):MInv KF T rs cap Y S:=
 ⟨a.re,a.st,a.ln,a.fl,λ b x c=>by
  rcases a.cl b x c with e|e|e
  .exact .inl e
  .exact .inr (.inl (d x e))
  .exact .inr (.inr e)⟩

def muW(mb H:Nat)(w:World):Nat:=
 match w.cell? ⟨mb,7,none⟩,w.cell? ⟨mb,4,none⟩ with
 |some (.int _ n),some (.slice _ l _)=>2*(H-n.toNat)+l
 |_,_=>0

theorem muW_at{w:World}{mb c cap base:Nat}{v0:Value}{sp sq mp mq H:Nat}{fs:Nat->Bool}{i:Value}{S:MS}(a:MarkAt w mb c cap base v0 sp sq mp mq H fs i S):muW mb H w=2*(H-S.n)+S.stk.length:=by
 obtain⟨-,-,-,-,b,-,-,d⟩:=Cs a.st.blk
 unfold muW
 rw[b,d]
 rcases a.st.row.2 with ⟨e,f⟩|⟨g,cap,j,e,_⟩
 .rw [e,f]
  simp
 .rw [e]
  simp

theorem MarkAt.n_le{w:World}{mb c cap base:Nat}{v0:Value}{sp sq mp mq H:Nat}{fs:Nat->Bool}{b:Value}{S:MS}(a:MarkAt w mb c cap base v0 sp sq mp mq H fs b S):S.n<=H:=by
 rw[a.cnt]
 exact Nat.le_trans List.countP_le_length (by simp)

def b01:Value->Nat
 |.bool true=>1
 |_=>0

attribute [local go_sem] Oper.semAt_some

def tgtsC(ts:List TypR)(W:Nat->Nat)(c:Cel):List Nat:=Fz W c.g (BQ ts c)

def kidOf(fs:Nat->Bool)(H y:Nat):List Nat:=if 1048576<=y/\y<1114112/\(y-1048576)%2=0/\EH fs H (((y-1048576)/2:Nat):Int)=true then [(y-1048576)/2] else []

def Fx(fs:Nat->Bool)(H:Nat)(ys:List Nat)(j:Nat):List Nat:=(ys.take j).flatMap (kidOf fs H)

theorem kidL_succ{fs:Nat->Bool}{H:Nat}{a:List Nat}{j y:Nat}(b:a[j]?=some y):Fx fs H a (j+1)=Fx fs H a j++kidOf fs H y:=by
 unfold Fx
 rw[List.take_add_one,b,List.flatMap_append]
 simp

theorem kidL_len(fs:Nat->Bool)(H:Nat)(a:List Nat):∀ j,(Fx fs H a j).length<=j
 |0=>by simp[Fx]
 |j+1=>by
  cases h:a[j]? with
  |some y=>
   rw[kidL_succ h,List.length_append]
   have:=kidL_len fs H a j
   have:(kidOf fs H y).length<=1:=by unfold kidOf;split <;> simp
   omega
  |none=>
   have b:Fx fs H a (j+1)=Fx fs H a j:=by unfold Fx;rw [List.take_add_one,h];simp
   rw[b]
   exact Nat.le_succ_of_le (kidL_len fs H a j)

theorem row_u64{w:World}{base:Nat}{e:TypeId}{a:Option Addr}{n c:Nat}{xs:List Nat}{i x:Nat}(d:w.ownsRow base e 1 (.slice a n c) n (u64Vs xs))(f:xs[i]?=some x):∃ b,a=some ⟨b,0,none⟩/\w.cell? ⟨b,i,none⟩=some (.int .u64 x):=by
 have u:=(gE.1 f).1
 have v:xs.length=n:=by have:=d.1;simpa [u64Vs] using this
 rcases d.2 with ⟨-,t⟩|⟨g,cap,k,o,p,l,q,r,s,m⟩
 .omega
 .injection o with h1 h2 h3
  refine⟨g,h1,?_⟩
  have:k.toList[i]?=some (.int .u64 x):=by
   rw[<- List.getElem?_take_of_lt (j:=n*1) (by omega),m,u64Vs,List.getElem?_map,f]
   rfl
  simp only[World.cell?,l]
  rw[<- this]
  simp

theorem SOf_full(c:Cel)(P:Sp)(W:Nat->Nat)(f:Nat->Bool)(cs:List Cel)(w:World)(d:SpaceAt w P W f)(o:CellsAt P W cs)(r:c∈cs)(l:c.tag=1):
  Calls prog 30 #[.pointer (some P.a),.pointer (some P.t),c.g] w λ e w'=>
   ∃ b k wds m,(typeOf P.ts (c.ty:Nat)=some ⟨k,wds,m⟩/\AU k wds m (c.ln:Nat)=0/\AZ k wds (c.ln:Nat)=(slotN P.ts c:Nat))/\e=.returned (.tuple #[.pointer (some ⟨b,0,none⟩),(0:Int)])/\Ce w' b P.a c k wds m/\w.heap.size<=b/\Kp Aa w w':=by
 refine(SOf_any (c.g:Nat) P.a P.q P.n P.t P.tq W P.ts w d.fl d.ar d.tb).mono ?_
 intro e w' j
 unfold Db at j
 rw[o.obj r l] at j
 obtain⟨b,k,wds,m,i,s,u,v,x⟩:=j
 have p:=kind_of o r l i
 refine⟨b,k,wds,m,⟨i,p,?_⟩,s,u,v,x⟩
 unfold slotN
 rw[if_pos l,i]
 dsimp only
 have:=(Bj p).1
 omega

def KidsPost(L:List Nat)(w:World)(e:Ending)(w':World):Prop:=
 ∃ a n c,e=.returned (.slice a n c)/\w'.ownsRow w.heap.size 3 1 (.slice a n c) n (Az L)/\Kp Aa w w'

set_option maxRecDepth 20000 in
theorem Kids_at(P:Sp)(W:Nat->Nat)(f:Nat->Bool)(cs:List Cel)(c:Cel)(mb c0 cap base:Nat)(sp sq mp mq H:Nat)(fs:Nat->Bool)(i1:Value)(S:MS)(w:World)(D:SpaceAt w P W f)(O:CellsAt P W cs)(R:c∈cs)(d4:c.tag=1)(d0:∀ x∈P.ts,x.m<18446744073709551616)
  (l:MarkAt w mb c0 cap base (.pointer (some P.s)) sp sq mp mq H fs i1 S):
  Calls prog 171 #[.pointer (some mb),c.g] w (KidsPost (Fx fs H (tgtsC P.ts W c) (tgtsC P.ts W c).length) w):=by
 have d2:=l.st
 obtain⟨a7,c5,-,-,-,-,-,-⟩:=Cs d2.blk
 have g6:=D.ar.small
 have b8:Sl (2*c.g+1+slotN P.ts c<=P.n):=⟨by
  have C:=slotN_room (O.ok c R) (O.tl.mem R).2.2
  have i5:=(O.tl.mem R).2.1
  have i6:=D.ev
  unfold Cel.fin at*
  omega⟩
 have b7:Sl (∀ w',Kp Aa w w'->Calls prog 31 #[.pointer (some P.s)] w' λ e b4=>e=.returned (.pointer (some P.a))/\b4=w'):=⟨λ w' E=>FR P W f w' (D.Ac E)⟩
 have c3:Sl (∀ w',Kp Aa w w'->Calls prog 32 #[.pointer (some P.s)] w' λ e b4=>e=.returned (.pointer (some P.t))/\b4=w'):=⟨λ w' E=>STable_at P W f w' (D.Ac E)⟩
 have c2:=sE (λ w' (E:Kp Aa w w')=>SOf_full c P W f cs w' (D.Ac E) O R d4)
 have f3:=sE D
 have e9:Sl (∀ (i:Int) p,Kp Aa w p->Calls prog 58 #[.pointer (some sp),.int .i64 i] p (RK (.bool (EH fs H i)) p)):=⟨λ i p E=>Has_int i H sp sq fs p (l.sb.keep E id id)⟩
 have f1:=sE d0
 clear l d2 D O R d4 d0 g6
 go_enter func171,ntmps171
 go_wp2_with fail
 go_region_held3 (λ w'=>w'.cell? mb=some (.pointer (some P.s)))
  (first|exact a7|exact Ae KU a7)
  (first
   |(go_at_call 31;(with_reducible refine(b7.o _ KU).mono ?_);rintro e w2 ⟨rfl,rfl⟩)
   |(go_at_call 32;(with_reducible refine(c3.o _ KU).mono ?_);rintro e j6 ⟨rfl,rfl⟩)
   |(go_at_call 30;(with_reducible refine(c2.o _ KU).mono ?_);rintro e e2 ⟨b,b2,wds,V,f9,rfl,c8,g2,e0⟩;have Z:Kp Aa w e2:=Kp.then' KU e0))
 obtain⟨C,a1,c7⟩:=f9
 have g4:V<18446744073709551616:=f1.o ⟨b2,wds,V⟩ (by
  unfold typeOf at C
  split at C
  .exact List.mem_of_getElem? C
  .cases C)
 have a2:tgtsC P.ts W c=Fz W c.g (BP b2 wds V (c.ln:Nat)):=by
  unfold tgtsC BQ
  rw[C]
 have a6:=f3.o.Ac Z
 have c4:=sE (Targets_at b P.a P.q P.n W c b2 wds V e2 a6.ar c8 a1 g4 (by rw[c7];have:=b8.o;omega))
 obtain⟨d,U⟩:∃ d,tgtsC P.ts W c=d:=⟨_,rfl⟩
 have K:∀ y∈d,y<18446744073709551616:=λ y z=>by
  rw[<- U,a2] at z
  unfold Fz at z
  obtain⟨z,-⟩:=List.mem_filter.1 z
  obtain⟨s,g5,rfl⟩:=List.mem_map.1 z
  have j0:=refsT_mem a1 g5
  exact a6.ar.fits _ (by have:=b8.o;omega)
 have g8:d.length<=65536:=by
  rw[<- U,a2]
  exact Nat.le_trans (tgtL_len _ _ _) (by have:=Eh (M:=V) a1;omega)
 rw[<- a2,U] at c4
 have f5:=sE U
 have f4:=sE K
 have f0:=sE Z
 have c6:=Z.cell c5 id
 clear C a1 c7 a2 a6 U K Z e0 c8 g2 a7 c5 b7 c3 c2
 go_wp2_with fail
 refine c4.o.mono ?_
 rintro e b5 ⟨j5,rfl,b3,b1⟩
 obtain⟨j2,j4,rfl⟩:=Aq b3
 have c1:=sE b3
 have X:=sE (f0.o.then' b1)
 have f6:=b1.cell c6 id
 have e4:w.heap.size<=b5.heap.size:=X.o.size
 clear b3 b1 c6
 go_wp2_with fail
 obtain⟨v,a0⟩:∃ v,b5.heap.size=v:=⟨_,rfl⟩
 obtain⟨L,J⟩:∃ L,d.length=L:=⟨_,rfl⟩
 have e5:=sE a0
 have a5:=sE J
 rw[a0] at e4
 rw[J] at g8
 simp only[J]
 rw[J] at c1
 go_loopw [4,8,9,10,31] (λ x4 _ _ _ x31 wr=>∃ j:Nat,j<=L/\x31=.int .i64 j/\(∃ a n c,x4=.slice a n c)/\wr.ownsRow v 3 1 x4 (Fx fs H d j).length (Az (Fx fs H d j))/\Kp Aa b5 wr/\v<=wr.heap.size) (λ _ _ _ _ x31 _=>L-(intOf x31).toNat)
 case atStart=>exact ⟨0,by omega,rfl,⟨_,_,_,rfl⟩,World.ownsRow_nil _ _ _ _,Kr _ _,by omega⟩
 case round=>
  obtain⟨j,i7,rfl,⟨la,ln,lc,rfl⟩,b0,Q,d3⟩:=hrel
  have G:=sE b0
  have A:=sE Q
  by_cases hjl:j<L
  .have i8:(j:Int)<(L:Int):=by omega
   have T:d[j]?=some (d[j]'(by rw[a5.o];exact hjl)):=List.getElem?_eq_getElem _
   obtain⟨y,z⟩:∃ y,d[j]'(by rw[a5.o];exact hjl)=y:=⟨_,rfl⟩
   rw[z] at T
   obtain⟨j3,rfl,a8⟩:=row_u64 c1.o T
   have K:=f4.o y (List.mem_of_getElem? T)
   have HAdd:=sE (kidL_succ (fs:=fs) (H:=H) T)
   have b9:Sl ((Fx fs H d j).length<=65536):=⟨by have:=kidL_len fs H d j;omega⟩
   replace a8:=Q.cell a8 id
   have i4:=Q.cell f6 id
   clear b0 Q a0 J z T
   by_cases hw1:1048576<=y/\y<1114112
   .obtain ⟨k,rfl⟩:∃ k,y=1048576+k:=⟨y-1048576,by omega⟩
    have g3:k<65536:=by omega
    have I:Sl (∀ p,Calls prog 174 #[.int .u64 ((1048576+k:Nat):Int)] p λ e w'=>e=.returned (.tuple #[.int .i64 (k:Nat),.bool true])/\w'=p):=⟨λ p=>SWord_yes k p g3⟩
    have B:Sl (kidOf fs H (1048576+k)=if k%2=0/\EH fs H ((k:Int)/2)=true then [k/2] else []):=⟨by
     unfold kidOf
     rw[Nat.add_sub_cancel_left,show (((k/2:Nat):Int))=(k:Int)/2 by omega]
     by_cases q:k%2=0/\EH fs H ((k:Int)/2)=true
     .rw [if_pos q,if_pos ⟨by omega,by omega,q.1,q.2⟩]
     .rw [if_neg q,if_neg (λ l=>q ⟨l.2.2.1,l.2.2.2⟩)]⟩
    clear hw1 K
    obtain⟨y,d6⟩:∃ y,1048576+k=y:=⟨_,rfl⟩
    rw[d6] at a8 I B HAdd
    clear d6
    by_cases q1:k%2=0
    .have i2:((k:Int)%2==0)=true:=by simp;omega
     have F:=e9.o ((k:Int)/2)
     cases q2:EH fs H ((k:Int)/2) with
     |true=>
      rw[q2] at F
      rw[B.o,if_pos ⟨q1,q2⟩] at HAdd
      have a3:=sE F
      clear q1 q2 F B
      go_wp2_with fail
      refine(I.o _).mono ?_
      rintro e b6 ⟨rfl,rfl⟩
      go_wp2_with fail
      refine(a3.o _ (X.o.then' A.o)).mono ?_
      rintro e N ⟨rfl,r⟩
      have a4:=sE (A.o.then' r)
      have Y:=sE (Af G.o r (λ _ _ l=>l))
      have g9:=r.size
      clear r
      have e6:Sl ((k:Int)/2=((k/2:Nat):Int)):=⟨by omega⟩
      go_wp2_with (at_builtin;obtain ⟨i0,a9,d7,d8,d9⟩:=info_parts Be;go_loud (refine wpList_append_lies _ rfl (.tmp 55) (.tmp 58) 24 rfl v 3 i0 _ 1 8 Ar a9 d7 d8 d9 rfl (by omega) (.slice la ln lc) (Fx fs H d j).length (Az (Fx fs H d j)) rfl (Y.o.alloc _) ⟨N.heap.size,0,none⟩ 1 1 [.int .i64 ((k:Int)/2)] rfl rfl (World.news_of_block (wN N _)) (by intro u d5;simp at d5;subst d5;rfl) (by omega) (by have:=b9.o;unfold maxLen;omega) (by have:=b9.o;omega) (by simp;omega) (N.heap.size+1) (by simp) ?_);intro f8 f7 e3 d1 c9 g1 i9;clear a9 d7 d8 d9;have e8:=sE c9;have f2:=sE d1;clear d1 c9 g1)
      have e1:Kp (λ k=>v<=k) N e3:=((Kr Aa N).alloc (.cells #[.int .i64 ((k:Int)/2)] 3) |>.Aw _).grown e8.o (λ k e _=>(Ad Y.o e).1)
      have g0:e3.ownsRow v 3 1 (.slice (some ⟨f8,0,none⟩) ((Fx fs H d j).length+1) f7) (Fx fs H d (j+1)).length (Az (Fx fs H d (j+1))):=by
       have:=f2.o
       rw[e6.o] at this
       rw[HAdd.o,Az,List.map_append,List.length_append]
       exact this
      have j1:=e1.size
      exact⟨⟨j+1,by omega,by go_num,⟨_,_,_,rfl⟩,g0,((a4.o.Aw (λ k=>v<=k)).trans e1 (λ _ _ l=>l)).mono (λ i a9 l=>by have:=e5.o;omega),by omega⟩,by simp only[intOf];omega⟩
     |false=>
      rw[q2] at F
      rw[B.o,if_neg (by rw[q2];simp),List.append_nil] at HAdd
      have a3:=sE F
      clear q1 q2 F B
      go_wp2_with fail
      refine(I.o _).mono ?_
      rintro e b6 ⟨rfl,rfl⟩
      go_wp2_with fail
      refine(a3.o _ (X.o.then' A.o)).mono ?_
      rintro e N ⟨rfl,r⟩
      have a4:=sE (A.o.then' r)
      have Y:=sE (Af G.o r (λ _ _ l=>l))
      have g9:=r.size
      clear r
      go_wp2
      exact⟨⟨j+1,by omega,by go_num,⟨_,_,_,rfl⟩,by rw[HAdd.o];exact Y.o,a4.o,by omega⟩,by simp only[intOf];omega⟩
    .have i2:((k:Int)%2==0)=false:=by simp;omega
     rw[B.o,if_neg (λ l=>q1 l.1),List.append_nil] at HAdd
     clear q1 B
     go_wp2_with fail
     refine(I.o _).mono ?_
     rintro e b6 ⟨rfl,rfl⟩
     go_wp2
     exact⟨⟨j+1,by omega,by go_num,⟨_,_,_,rfl⟩,by rw[HAdd.o];exact G.o,A.o,d3⟩,by simp only[intOf];omega⟩
   .have I:Sl (∀ p,Calls prog 174 #[.int .u64 (y:Nat)] p λ e w'=>e=.returned (.tuple #[(0:Int),.bool false])/\w'=p):=⟨λ p=>SWord_no y p (by omega) K⟩
    have e7:Sl (Fx fs H d (j+1)=Fx fs H d j):=⟨by
     rw[HAdd.o,kidOf,if_neg (λ l=>hw1 ⟨l.1,l.2.1⟩),List.append_nil]⟩
    clear hw1 K
    go_wp2_with fail
    refine(I.o _).mono ?_
    rintro e b6 ⟨rfl,rfl⟩
    go_wp2
    exact⟨⟨j+1,by omega,by go_num,⟨_,_,_,rfl⟩,by rw[e7.o];exact G.o,A.o,d3⟩,by simp only[intOf];omega⟩
  .obtain rfl:j=L:=by omega
   clear b0 Q a0 J
   go_wp2_with fail
   go_ret
   obtain⟨a',i3,g7⟩:=Aq G.o
   injection g7 with v1 v2 v3
   refine⟨la,ln,lc,rfl,?_,X.o.then' A.o⟩
   rw[f5.o,a5.o,v2]
   have:=Cq G.o e4
   rw[v2] at this
   exact this

end

section
open Go.RowKit Go.Conc

structure MCtx(KF:Nat->List Nat)(T rs:Nat->Prop)(mb c cap base:Nat)(v0:Value)(sp sq mp mq H:Nat)(fs:Nat->Bool)(I:World->Prop):Prop where
 hI:∀ w w',I w->Kp (λ k=>k=mb\/k=c\/k=mq\/base<=k) w w'->I w'
 hK:∀ g,T g->∀ w lv S,I w->MarkAt w mb c cap base v0 sp sq mp mq H fs lv S->Calls prog 171 #[.pointer (some mb),.int .i64 (g:Nat)] w (KidsPost (KF g) w)
 hT:∀ g,T g->g<H
 hKT:∀ g,T g->∀ k∈KF g,T k
 hl:∀ g,T g->(KF g).length<=65536

structure MSt(KF:Nat->List Nat)(T rs:Nat->Prop)(mb c cap base:Nat)(v0:Value)(sp sq mp mq H:Nat)(fs:Nat->Bool)(I:World->Prop)(X:Nat->Prop)(w0:World)(lv0:Value)(S0:MS)(w:World)(lv:Value)(S:MS):Prop where
 at_:MarkAt w mb c cap base v0 sp sq mp mq H fs lv S
 inv:MInv KF T rs cap X S
 ext:MExt S0 S
 hi:I w
 own:∀ b,lv.ownBlock=some b->lv0.ownBlock=some b\/w0.heap.size<=b
 kp:Kp (MarkS mb c mq lv0) w0 w

theorem MarkAt.ge{w:World}{mb c cap base:Nat}{v0:Value}{sp sq mp mq H:Nat}{fs:Nat->Bool}{a:Value}{S:MS}(d:MarkAt w mb c cap base v0 sp sq mp mq H fs a S){b:Nat}(e:a.ownBlock=some b):base<=b:=(Ad d.st.row e).1

section
variable {KF:Nat->List Nat} {T rs:Nat->Prop} {mb c cap base:Nat} {v0:Value} {sp sq mp mq H:Nat} {fs:Nat->Bool} {I:World->Prop} {X Y:Nat->Prop} {w0 w1 w2:World} {lv0 lv1 lv2:Value} {S0 S1 S2:MS}

theorem MSt.trans(a:MSt KF T rs mb c cap base v0 sp sq mp mq H fs I X w0 lv0 S0 w1 lv1 S1)(k:MSt KF T rs mb c cap base v0 sp sq mp mq H fs I Y w1 lv1 S1 w2 lv2 S2):MSt KF T rs mb c cap base v0 sp sq mp mq H fs I Y w0 lv0 S0 w2 lv2 S2:=
 ⟨k.at_,k.inv,a.ext.trans k.ext,k.hi,λ b d=>by
  rcases k.own b d with e|e
  .exact a.own b e
  .exact .inr (Nat.le_trans a.kp.size e),a.kp.trans k.kp (λ i f e=>by
  rcases e with e|e|e|e
  .exact .inl e
  .exact .inr (.inl e)
  .exact .inr (.inr (.inl e))
  .rcases a.own i e with e|e
   .exact .inr (.inr (.inr e))
   .omega)⟩

theorem MSt.refl(a:MarkAt w0 mb c cap base v0 sp sq mp mq H fs lv0 S0)(k:MInv KF T rs cap X S0)(e:I w0):MSt KF T rs mb c cap base v0 sp sq mp mq H fs I X w0 lv0 S0 w0 lv0 S0:=
 ⟨a,k,MExt.refl _,e,λ b d=>.inl d,Kr _ _⟩

theorem MSt.new(C:MCtx KF T rs mb c cap base v0 sp sq mp mq H fs I)(h:MSt KF T rs mb c cap base v0 sp sq mp mq H fs I X w0 lv0 S0 w1 lv1 S1)(k:Kp Aa w1 w2):MSt KF T rs mb c cap base v0 sp sq mp mq H fs I X w0 lv0 S0 w2 lv1 S1:=
 ⟨h.at_.keep k (λ b e=>e.elim),h.inv,h.ext,C.hI _ _ h.hi (k.mono λ_ _ e=>e.elim),h.own,h.kp.trans k (λ i _ e=>e.elim)⟩

theorem MSt.inv'(h:MSt KF T rs mb c cap base v0 sp sq mp mq H fs I X w0 lv0 S0 w1 lv1 S1)(k:MInv KF T rs cap Y S1):MSt KF T rs mb c cap base v0 sp sq mp mq H fs I Y w0 lv0 S0 w1 lv1 S1:=
 ⟨h.at_,k,h.ext,h.hi,h.own,h.kp⟩

theorem MSt.mark(C:MCtx KF T rs mb c cap base v0 sp sq mp mq H fs I)(a:MSt KF T rs mb c cap base v0 sp sq mp mq H fs I X w0 lv0 S0 w1 lv1 S1){g:Nat}(j:T g)(q:MReach KF rs g):
  Calls prog 123 #[.pointer (some mb),g] w1 λ e w'=>e=.returned (.tuple #[])/\∃ b S',MSt KF T rs mb c cap base v0 sp sq mp mq H fs I X w1 lv1 S1 w' b S'/\S'.f g=true:=by
 refine(Mark_at mb c cap base v0 sp sq mp mq H fs lv1 S1 g (C.hT g j) w1 a.at_).mono ?_
 rintro e w' ⟨o,b,n,p,d⟩
 obtain⟨k,l,m⟩:=markR_inv a.inv j q
 exact ⟨o, b, _, ⟨n, k, m, C.hI _ _ a.hi (d.mono λ i _ e=>by
  rcases e with e|e|e|e
  .exact .inl e
  .exact .inr (.inl e)
  .exact .inr (.inr (.inl e))
  .exact .inr (.inr (.inr (a.at_.ge e)))),p,d⟩,l⟩

def PopSt(KF:Nat->List Nat)(T rs:Nat->Prop)(mb c cap base:Nat)(v0:Value)(sp sq mp mq H:Nat)(fs:Nat->Bool)(I:World->Prop)(X:Nat->Prop)(w0:World)(lv0:Value)(S0:MS)(e:Ending)(w':World):Prop:=
 (∃ (g:Nat) (lv:Value) (S:MS),e=.returned (.tuple #[g,.bool true])/\MSt KF T rs mb c cap base v0 sp sq mp mq H fs I (λ x=>X x\/x=g) w0 lv0 S0 w' lv S/\S.f g=true/\S.stk.length+1=S0.stk.length/\S.n=S0.n)\/
  (e=.returned (.tuple #[(0:Int),.bool false])/\S0.stk=[]/\w'=w0)

theorem MSt.pop(C:MCtx KF T rs mb c cap base v0 sp sq mp mq H fs I)(a:MSt KF T rs mb c cap base v0 sp sq mp mq H fs I X w0 lv0 S0 w1 lv1 S1):
  Calls prog 170 #[.pointer (some ⟨mb,3,none⟩)] w1 (PopSt KF T rs mb c cap base v0 sp sq mp mq H fs I X w1 lv1 S1):=by
 rcases List.eq_nil_or_concat S1.stk with e|⟨m,g,e⟩
 .have k:=a.at_.st
  rw[e] at k
  refine(Pop_none mb c cap base _ _ _ _ _ lv1 S1.deep w1 k).mono ?_
  rintro j w' ⟨rfl,rfl⟩
  exact .inr ⟨rfl,e,rfl⟩
 .have j:S1.stk=m++[g]:=by simpa using e
  have k:=a.at_.st
  rw[j] at k
  obtain⟨o,p⟩:=a.inv.pop j
  refine(Pop_some mb c cap base g _ _ _ _ _ lv1 m S1.deep w1 k a.at_.bz).mono ?_
  rintro v w' ⟨rfl,s,u,t,l⟩
  have d:=a.at_.ne
  have r:Kp (MarkS mb c mq lv1) w1 w':=l.mono λ i _ e=>by
   rcases e with e|e
   .exact .inl e
   .exact .inr (.inl e)
  refine .inl ⟨g,s,⟨S1.f,S1.full,S1.n,m,S1.deep⟩,rfl,⟨⟨u,?_,?_,a.at_.cnt,a.at_.ap,d,Nat.le_trans a.at_.bz l.size⟩,o,⟨λ _ e=>e,Nat.le_refl _,λ e=>e,λ e=>.inl e,?_⟩,C.hI _ _ a.hi (l.mono λ i _ e=>?_),λ b q=>.inl (t b q),r⟩,p,?_,rfl⟩
  .exact a.at_.sb.keep l (λ e=>by rcases e with e|e;exact d.1 e.symm;exact d.2.2.2.2.1 e.symm) (λ e=>by rcases e with e|e;exact d.2.1 e.symm;exact d.2.2.2.2.2.1 e.symm)
  .exact a.at_.mbits.keep l (λ e=>by rcases e with e|e;exact d.2.2.1 e.symm;exact d.2.2.2.2.2.2.1 e.symm) (λ e=>by rcases e with e|e;exact d.2.2.2.1 e.symm;exact d.2.2.2.2.2.2.2.1 e.symm)
  .rw [j]
   simp
  .rcases e with e|e
   .exact .inl e
   .exact .inr (.inl e)
  .rw [j]
   simp

end

def DrainPost(KF:Nat->List Nat)(T rs:Nat->Prop)(mb c cap base:Nat)(v0:Value)(sp sq mp mq H:Nat)(fs:Nat->Bool)(I:World->Prop)(X:Nat->Prop)(w0:World)(lv0:Value)(S0:MS)(e:Ending)(w':World):Prop:=
 e=.returned (.tuple #[])/\∃ lv S,MSt KF T rs mb c cap base v0 sp sq mp mq H fs I X w0 lv0 S0 w' lv S/\S.stk=[]

set_option maxRecDepth 20000 in
theorem Drain_at{KF:Nat->List Nat}{T rs:Nat->Prop}{mb c cap base:Nat}{v0:Value}{sp sq mp mq H:Nat}{fs:Nat->Bool}{I:World->Prop}{X:Nat->Prop}{lv0:Value}{S0:MS}(C:MCtx KF T rs mb c cap base v0 sp sq mp mq H fs I)(w:World)(U:MarkAt w mb c cap base v0 sp sq mp mq H fs lv0 S0)(a7:MInv KF T rs cap X S0)(a5:I w):
  Calls prog 124 #[.pointer (some mb)] w (DrainPost KF T rs mb c cap base v0 sp sq mp mq H fs I X w lv0 S0):=by
 have n:=sE C
 have J:=sE (MSt.refl (rs:=rs) (KF:=KF) (T:=T) (I:=I) (X:=X) U a7 a5)
 clear C U a7 a5
 go_enter func124,ntmps124
 go_wp2_with fail
 refine(J.o.pop n.o).mono ?_
 intro e w1 t
 have c5:∃ (g:Nat) (b:Bool),e=.returned (.tuple #[g,.bool b]):=by
  rcases t with ⟨g,_,_,rfl,_⟩|⟨rfl,_⟩
  .exact ⟨g,true,rfl⟩
  .exact ⟨0,false,rfl⟩
 obtain⟨R,d1,rfl⟩:=c5
 have D:=sE t
 clear t
 go_wp2_with fail
 go_loopw [2,3,5] (λ x2 x3 _ wr=>(∃ (g:Nat) (l:Value) (S:MS),x2=.int .i64 g/\x3=.bool true/\MSt KF T rs mb c cap base v0 sp sq mp mq H fs I (λ x=>X x\/x=g) w lv0 S0 wr l S/\S.f g=true)\/(x2=.int .i64 0/\x3=.bool false/\∃ (l:Value) (S:MS),MSt KF T rs mb c cap base v0 sp sq mp mq H fs I X w lv0 S0 wr l S/\S.stk=[])) (λ _ x3 _ wr=>muW mb H wr+b01 x3)
 case atStart=>
  rcases D.o with ⟨g,l,S,a,d,c3,-⟩|⟨a,u,rfl⟩
  .injection a with a
   injection a with a
   simp at a
   obtain⟨c2,rfl⟩:=a
   have:R=g:=by omega
   subst this
   exact .inl ⟨_,l,S,rfl,rfl,d,c3⟩
  .injection a with a
   injection a with a
   simp at a
   obtain⟨c2,rfl⟩:=a
   have:R=0:=by omega
   subst this
   exact .inr ⟨rfl,rfl,lv0,S0,J.o,u⟩
 case round=>
  rcases hrel with ⟨g,lv1,S1,rfl,rfl,d,a4⟩|⟨rfl,rfl,lv1,S1,d,u⟩
  .obtain ⟨E,a0⟩:=d.inv.re g a4
   have m:=sE d
   have b2:=sE (n.o.hK g E wr lv1 S1 d.hi d.at_)
   have Q:=sE E
   have b8:=sE a0
   have O:=sE (muW_at d.at_)
   clear d a4 E a0 D
   go_wp2_with fail
   refine b2.o.mono ?_
   rintro e w2 ⟨e4,c7,e5,rfl,z,G⟩
   obtain rfl:c7=(KF g).length:=by have:=z.1;simpa [Az] using this.symm
   obtain⟨L,r⟩:∃ L,(KF g).length=L:=⟨_,rfl⟩
   have d6:L<=65536:=by rw[<- r];exact n.o.hl g Q.o
   rw[r] at z
   simp only[r]
   have A:=sE r
   have P:=sE z
   have p:=sE (m.o.new n.o G)
   have b4:=sE (MSt.refl p.o.at_ p.o.inv p.o.hi)
   have e3:=G.size
   have b3:Sl (∀ b,lv1.ownBlock=some b->b<wr.heap.size):=⟨λ b a1=>(Ad m.o.at_.st.row a1).2⟩
   have b6:Sl (∀ b,wr.heap.size<=b->¬ MarkS mb c mq lv1 b):=⟨λ b a1 e=>by
    have d2:=m.o.at_.st.mb_lt
    have d3:=m.o.at_.st.c_lt
    have d4:=m.o.at_.ap.2.2.2
    have d5:=m.o.at_.bz
    rcases e with e|e|e|e
    .omega
    .omega
    .omega
    .have:=b3.o b e;omega⟩
   clear r z G
   go_wp2_with fail
   go_loopw [5,25] (λ _ x25 d0=>∃ (j:Nat) (l:Value) (S:MS),j<=L/\x25=.int .i64 j/\MSt KF T rs mb c cap base v0 sp sq mp mq H fs I (λ x=>X x\/x=g) w2 lv1 S1 d0 l S/\(∀ k∈(KF g).take j,S.f k=true)) (λ _ x25 _=>L-(intOf x25).toNat)
   case atStart=>exact ⟨0,lv1,S1,Nat.zero_le _,rfl,b4.o,λ k i=>by simp at i⟩
   case round=>
    obtain⟨j,l,S,d7,rfl,s,y⟩:=hrel
    have B:=sE s
    have b0:=sE y
    by_cases hjl:j<L
    .have d8:(j:Int)<(L:Int):=by omega
     have v:(KF g)[j]?=some ((KF g)[j]'(by rw[A.o];exact hjl)):=List.getElem?_eq_getElem _
     obtain⟨x,a8⟩:∃ x,(KF g)[j]'(by rw[A.o];exact hjl)=x:=⟨_,rfl⟩
     rw[a8] at v
     obtain⟨a9,rfl,a2⟩:=Cu P.o v
     have a6:=(Ad P.o (b:=a9) (by simp[Value.ownBlock])).1
     have F:=List.mem_of_getElem? v
     replace a2:=s.kp.cell a2 (b6.o a9 a6)
     have b5:=sE (s.mark n.o (n.o.hKT g Q.o x F) (MReach.step b8.o F))
     have b9:Sl ((KF g).take (j+1)=(KF g).take j++[x]):=⟨by rw[List.take_add_one,v];rfl⟩
     clear s y a8 v F a6
     go_wp2_with fail
     refine b5.o.mono ?_
     rintro e e6 ⟨rfl,c9,c0,W,a3⟩
     have M:=sE W
     have b1:=sE a3
     clear W a3
     go_wp2_with fail
     exact⟨⟨j+1,c9,c0,by omega,by go_num,B.o.trans M.o,λ k i=>by
      rw[b9.o] at i
      rcases List.mem_append.1 i with i|i
      .exact M.o.ext.f k (b0.o k i)
      .obtain rfl:k=x:=by simpa using i
       exact b1.o⟩,by simp only[intOf];omega⟩
    .obtain rfl:j=L:=by omega
     have q:=sE (B.o.inv' (Y:=X) (B.o.inv.close (λ k i=>y k (by rw[<- A.o,List.take_length];exact i))))
     have b7:=sE (q.o.pop n.o)
     clear s y hjl
     go_wp2_with fail
     refine b7.o.mono ?_
     intro e e7 t
     have Z:=(p.o.trans q.o)
     have d9:=q.o.ext.mu
     have e1:=q.o.at_.n_le
     have e0:=p.o.at_.n_le
     have N:=sE Z
     clear Z
     rcases t with ⟨c1,c8,S',rfl,V,c4,e2,c6⟩|⟨rfl,u,rfl⟩
     .have K:=sE V
      clear V
      go_wp2_with fail
      refine⟨.inl ⟨c1,c8,S',rfl,rfl,N.o.trans K.o,c4⟩,?_⟩
      rw[O.o,muW_at K.o.at_,c6]
      simp[b01]
      omega
     .go_wp2_with fail
      refine⟨.inr ⟨rfl,rfl,l,S,N.o,u⟩,?_⟩
      rw[O.o,muW_at q.o.at_]
      simp[b01]
      omega
  .clear D
   have m:=sE d
   clear d
   go_wp2_with fail
   go_end0
   exact⟨rfl,lv1,S1,m.o,u⟩

section
variable {KF:Nat->List Nat} {T rs:Nat->Prop} {mb c cap base:Nat} {v0:Value} {sp sq mp mq H:Nat} {fs:Nat->Bool} {I:World->Prop} {X Y:Nat->Prop} {w0 w1 w2:World} {lv0 lv1 lv2:Value} {S0 S1 S2:MS}

def NextSt(KF:Nat->List Nat)(T rs:Nat->Prop)(mb c cap base:Nat)(v0:Value)(sp sq mp mq H:Nat)(fs:Nat->Bool)(I:World->Prop)(p:Nat)(w0:World)(lv0:Value)(S0:MS)(lv:Value)(S:MS)(e:Ending)(w':World):Prop:=
 (∃ g:Nat,e=.returned (.tuple #[g,.bool true])/\p<=g/\g<H/\MSt KF T rs mb c cap base v0 sp sq mp mq H fs I (λ x=>g<=x) w0 lv0 S0 w' lv S/\S.f g=true)\/
  (e=.returned (.tuple #[(0:Int),.bool false])/\MSt KF T rs mb c cap base v0 sp sq mp mq H fs I (λ _=>False) w0 lv0 S0 w' lv S)

theorem MSt.next(C:MCtx KF T rs mb c cap base v0 sp sq mp mq H fs I)(p:Nat)(i:Int)(r:i=(p:Nat))(m:MSt KF T rs mb c cap base v0 sp sq mp mq H fs I (λ x=>p<=x) w0 lv0 S0 w1 lv1 S1):
  Calls prog 105 #[.pointer (some mp),.int .i64 i] w1 (NextSt KF T rs mb c cap base v0 sp sq mp mq H fs I p w0 lv0 S0 lv1 S1):=by
 subst r
 refine(Next_at (p:Nat) H mp mq S1.f w1 m.at_.mbits).mono ?_
 rintro e w' ⟨rfl,k⟩
 have a:=m.new C k
 rw[show ((p:Nat):Int).toNat=p from rfl]
 rcases nextB_spec S1.f H p with ⟨j,d,g,n,o,q⟩|⟨d,g⟩
 .rw [d]
  refine .inl ⟨j,rfl,g,n,a.inv' ⟨a.inv.re,a.inv.st,a.inv.ln,a.inv.fl,λ l x b=>?_⟩,o⟩
  rcases a.inv.cl l x b with e|e|e
  .exact .inl e
  .right
   left
   by_cases hj:j<=x
   .exact hj
   .have:=q x e (by omega)
    rw[b] at this
    cases this
  .exact .inr (.inr e)
 .rw [d]
  refine .inr ⟨rfl,a.inv' ⟨a.inv.re,a.inv.st,a.inv.ln,a.inv.fl,λ l x b=>?_⟩⟩
  rcases a.inv.cl l x b with e|e|e
  .exact .inl e
  .have:=g x e (C.hT x (a.inv.re x b).1)
   rw[b] at this
   cases this
  .exact .inr (.inr e)

end

def unfull(S:MS):MS:=⟨S.f,false,S.n,S.stk,S.deep⟩

set_option maxRecDepth 20000 in
theorem Again_at{KF:Nat->List Nat}{T rs:Nat->Prop}{mb c cap base:Nat}{v0:Value}{sp sq mp mq H:Nat}{fs:Nat->Bool}{I:World->Prop}{X:Nat->Prop}{lv0:Value}{S0:MS}(C:MCtx KF T rs mb c cap base v0 sp sq mp mq H fs I)(w:World)(l:MarkAt w mb c cap base v0 sp sq mp mq H fs lv0 S0)(E:MInv KF T rs cap X S0)(b3:I w)(b5:S0.stk=[]):
  Calls prog 125 #[.pointer (some mb)] w (DrainPost KF T rs mb c cap base v0 sp sq mp mq H fs I (λ _=>False) w lv0 (unfull S0)):=by
 have p:=sE C
 obtain⟨w1,F⟩:∃ w1,w1=w.setCell ⟨mb,6,none⟩ (.bool false):=⟨_,rfl⟩
 have q:Kp (λ k=>k=mb) w w1:=by rw[F];exact (Kr (λ k=>k=mb) w).setCell (λ _=>rfl) _
 have s:=l.ne
 have O:MarkAt w1 mb c cap base v0 sp sq mp mq H fs lv0 (unfull S0):=⟨l.st.turn q (by rw[F];exact set8_6 l.st.blk _),l.sb.keep q (λ e=>s.1 e.symm) (λ e=>s.2.1 e.symm),l.mbits.keep q (λ e=>s.2.2.1 e.symm) (λ e=>s.2.2.2.1 e.symm),l.cnt,l.ap,s,Nat.le_trans l.bz q.size⟩
 have m:Sl (MSt KF T rs mb c cap base v0 sp sq mp mq H fs I (λ x=>0<=x) w lv0 (unfull S0) w1 lv0 (unfull S0)):=⟨O,⟨E.re,E.st,E.ln,(λ R=>by cases R),λ _ x _=>.inr (.inl (Nat.zero_le x))⟩,MExt.refl _,C.hI _ _ b3 (q.mono λ i _ e=>.inl e),λ b D=>.inl D,q.mono λ i _ e=>.inl e⟩
 have M:=sE (m.o.next C 0 0 rfl)
 have a1:Sl ((unfull S0).stk=[]):=⟨b5⟩
 obtain⟨-,-,d2,-,-,-,d3,-⟩:=Cs l.st.blk
 have d4:=Ab l.st.blk 6
 obtain⟨-,-,a5,-,-,-,-,-⟩:=Cs O.st.blk
 clear C l E b3 b5 O q s
 go_enter func125,ntmps125
 go_wp2_with fail
 rw[<- F]
 clear F
 go_wp2_with fail
 refine M.o.mono ?_
 intro e w2 V
 have e0:∃ (g:Nat) (b:Bool),e=.returned (.tuple #[g,.bool b]):=by
  rcases V with ⟨g,rfl,_⟩|⟨rfl,_⟩
  .exact ⟨g,true,rfl⟩
  .exact ⟨0,false,rfl⟩
 obtain⟨a6,e6,rfl⟩:=e0
 have N:=sE V
 clear V d2 d3 d4 a5
 go_wp2_with fail
 go_loopw [2,3,5] (λ x2 x3 _ wr=>(∃ (g:Nat) (r:Value) (S:MS),x2=.int .i64 g/\x3=.bool true/\g<H/\MSt KF T rs mb c cap base v0 sp sq mp mq H fs I (λ x=>g<=x) w lv0 (unfull S0) wr r S/\S.f g=true/\S.stk=[])\/(x2=.int .i64 0/\x3=.bool false/\∃ (r:Value) (S:MS),MSt KF T rs mb c cap base v0 sp sq mp mq H fs I (λ _=>False) w lv0 (unfull S0) wr r S/\S.stk=[])) (λ x2 x3 _ _=>b01 x3*(H+1-(intOf x2).toNat))
 case atStart=>
  rcases N.o with ⟨g,d,-,d8,a,R⟩|⟨d,a⟩
  .injection d with d
   injection d with d
   simp at d
   obtain⟨d6,rfl⟩:=d
   have:a6=g:=by omega
   subst this
   exact .inl ⟨_,lv0,_,rfl,rfl,d8,a,R,a1.o⟩
  .injection d with d
   injection d with d
   simp at d
   obtain⟨d6,rfl⟩:=d
   have:a6=0:=by omega
   subst this
   exact .inr ⟨rfl,rfl,lv0,_,a,a1.o⟩
 case round=>
  rcases hrel with ⟨g,lv1,S1,rfl,rfl,f4,a,b2,e2⟩|⟨rfl,rfl,lv1,S1,a,e1⟩
  .obtain ⟨Q,a9⟩:=a.inv.re g b2
   have m:=sE a
   have c3:=sE (p.o.hK g Q wr lv1 S1 a.hi a.at_)
   have a3:=sE Q
   have c9:=sE a9
   have c2:=sE a.at_.mbits.FQ
   clear a b2 Q a9 N e2
   go_wp2_with fail
   refine c3.o.mono ?_
   rintro e w2 ⟨f9,e3,g0,rfl,G,Y⟩
   obtain rfl:e3=(KF g).length:=by have:=G.1;simpa [Az] using this.symm
   obtain⟨L,t⟩:∃ L,(KF g).length=L:=⟨_,rfl⟩
   have f2:L<=65536:=by rw[<- t];exact p.o.hl g a3.o
   rw[t] at G
   simp only[t]
   have J:=sE t
   have a0:=sE G
   have y:=sE (m.o.new p.o Y)
   have c6:=sE (MSt.refl y.o.at_ y.o.inv y.o.hi)
   have f8:=Y.size
   have c4:Sl (∀ b,lv1.ownBlock=some b->b<wr.heap.size):=⟨λ b D=>(Ad m.o.at_.st.row D).2⟩
   have c8:Sl (∀ b,wr.heap.size<=b->¬ MarkS mb c mq lv1 b):=⟨λ b D e=>by
    have e7:=m.o.at_.st.mb_lt
    have e8:=m.o.at_.st.c_lt
    have e9:=m.o.at_.ap.2.2.2
    have f0:=m.o.at_.bz
    rcases e with e|e|e|e
    .omega
    .omega
    .omega
    .have:=c4.o b e;omega⟩
   clear t G Y
   go_wp2_with fail
   go_loopw [5,32] (λ _ x32 e5=>∃ (j:Nat) (r:Value) (S:MS),j<=L/\x32=.int .i64 j/\MSt KF T rs mb c cap base v0 sp sq mp mq H fs I (λ x=>g<=x) w2 lv1 S1 e5 r S/\(∀ k∈(KF g).take j,S.f k=true)) (λ _ x32 _=>L-(intOf x32).toNat)
   case atStart=>exact ⟨0,lv1,S1,Nat.zero_le _,rfl,c6.o,λ k n=>by simp at n⟩
   case round=>
    obtain⟨j,r,S,f5,rfl,u,A⟩:=hrel
    have K:=sE u
    have b9:=sE A
    by_cases hjl:j<L
    .have f6:(j:Int)<(L:Int):=by omega
     have v:(KF g)[j]?=some ((KF g)[j]'(by rw[J.o];exact hjl)):=List.getElem?_eq_getElem _
     obtain⟨x,W⟩:∃ x,(KF g)[j]'(by rw[J.o];exact hjl)=x:=⟨_,rfl⟩
     rw[W] at v
     obtain⟨b7,rfl,b0⟩:=Cu a0.o v
     have b4:=(Ad a0.o (b:=b7) (by simp[Value.ownBlock])).1
     have U:=List.mem_of_getElem? v
     replace b0:=u.kp.cell b0 (c8.o b7 b4)
     have c7:=sE (u.mark p.o (p.o.hKT g a3.o x U) (MReach.step c9.o U))
     have d0:Sl ((KF g).take (j+1)=(KF g).take j++[x]):=⟨by rw[List.take_add_one,v];rfl⟩
     clear u A W v U b4
     go_wp2_with fail
     refine c7.o.mono ?_
     rintro e g1 ⟨rfl,e4,d1,a7,b1⟩
     have Z:=sE a7
     have c1:=sE b1
     clear a7 b1
     go_wp2_with fail
     exact⟨⟨j+1,e4,d1,by omega,by go_num,K.o.trans Z.o,λ k n=>by
      rw[d0.o] at n
      rcases List.mem_append.1 n with n|n
      .exact Z.o.ext.f k (b9.o k n)
      .obtain rfl:k=x:=by simpa using n
       exact c1.o⟩,by simp only[intOf];omega⟩
    .obtain rfl:j=L:=by omega
     have z:Sl (MSt KF T rs mb c cap base v0 sp sq mp mq H fs I (λ x=>g+1<=x) w lv0 (unfull S0) _ r S):=⟨(y.o.trans K.o).inv' (MInv.close (g:=g) (K.o.inv.mono (λ x (W:g<=x)=>by
      show g+1<=x\/x=g
      omega)) (λ k n=>A k (by rw[<- J.o,List.take_length];exact n)))⟩
     have c0:=sE (Drain_at p.o _ z.o.at_ z.o.inv z.o.hi)
     clear u A hjl
     go_wp2_with fail
     refine c0.o.mono ?_
     rintro e g2 ⟨rfl,b8,a4,a8,b6⟩
     have P:=z.o.trans a8
     have f1:=c2.o
     have f7:IntKind.i64.wrap ((g:Int)+1)=(g:Int)+1:=by rw[IntKind.wrap_i64];omega
     have M:=sE (P.next p.o (g+1) ((g:Int)+1) (by omega))
     obtain⟨-,-,a5,-,-,-,-,-⟩:=Cs P.at_.st.blk
     have a2:=sE b6
     clear a8 P b6
     go_wp2_with fail
     refine M.o.mono ?_
     rintro e g3 (⟨d5,rfl,f3,d9,B,d7⟩|⟨rfl,B⟩)
     .have c5:=sE B
      clear B
      go_wp2_with fail
      refine⟨.inl ⟨d5,b8,a4,rfl,rfl,d9,c5.o,d7,a2.o⟩,?_⟩
      simp[b01,intOf]
      omega
     .go_wp2_with fail
      refine⟨.inr ⟨rfl,rfl,b8,a4,B,a2.o⟩,?_⟩
      simp[b01,intOf]
      omega
  .clear N
   have m:=sE a
   clear a
   go_wp2_with fail
   go_end0
   exact⟨rfl,lv1,S1,m.o,e1⟩

end

end Go.Proofs.YtfkedlgpgmaemaaGreatDoor
