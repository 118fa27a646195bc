/-
  Laid texts.
-/
import Derived.Test.YtcicjklhbnipcaaGreatDoorPkWpG
import Derived.ArgAppend
import Derived.Lib.ConvBytes
set_option maxHeartbeats 16000000
set_option maxRecDepth 1000000
set_option linter.unusedVariables false
set_option linter.unusedSimpArgs false
namespace Go.Proofs.YtcicjklhbnipcaaGreatDoor
section
open Go.RowKit Go.Maps
def gZ(e:TypeId)(cap:Nat)(l:List UInt8)(o:Obj):Prop:= ∃ cur fz,o= .cells cur e fz∧cur.size=cap∧(fz=(0,0)∨cap≤fz.1)∧l.length≤cap∧cap≤maxLen∧ ∀ (j:Nat) (u:UInt8),l[j]? =some u→cur[j]? =some (Value.int .u8 u.toNat)
section
variable {P:Program}{K:Act→World→Prop}{a:Act}{w w0 w':World}{ops:Array Oper}{l:List (Oper×Nat)}{c:Nat}{o:Oper}{F:List Nat}{L Lr:List Ent}{b:Nat}{ty src dst e:TypeId}{x y:Operand}
theorem XV(w:World)(e:TypeId)(s:ByteArray):Below w.heap.size w (Lib.bytesWorld w e s):=⟨rfl,rfl,rfl,by rw[Lib.bytesWorld_size];omega,fun k hk=>Lib.bytesWorld_at_old w e s k hk⟩
theorem BL(w:World)(e:TypeId)(s:ByteArray)(hs:s.size≤maxLen): ∃ x,(Lib.bytesWorld w e s).heap[w.heap.size]? =some x∧gZ e (grownCap w s.size 0 e) s.data.toList x:=by
 have hge:=grownCap_ge w s.size 0 e
 have hcm:=grownCap_le_maxLen w s.size 0 e hs
 have hz:s.data.toList.length=s.size:=by simp
 have hsz:(Lib.bytesCells w e s).size=grownCap w s.size 0 e:=by
  unfold Lib.bytesCells
  rw[Array.size_append,Array.size_map,Array.size_replicate]
  have:s.data.size=s.size:=rfl
  omega
 refine⟨_,Lib.bytesWorld_at_new w e s,_,_,rfl,hsz,.inr (by simp only[hsz];exact Nat.le_refl _),by omega,hcm,fun j u hj=> ?_⟩
 have cK:j<s.data.size:=by have:=(laHz.1 hj).1;simpa using this
 unfold Lib.bytesCells
 rw[Array.getElem?_append_left (by rw[Array.size_map];exact cK),Array.getElem?_map]
 have BM:s.data[j]? =some u:=by simpa using hj
 rw[BM]
 rfl
theorem St.ofString(hx:o.op= .convert src dst x)(hM:St w0 F w L)(hc:(c==2||c==3)=true)(hw:Region.wanted o (yielded ops a.tmps)=true){s:ByteArray}(e1:a.eval x= .string s){u:TypeDesc}(hs:P.underlying src=some u)(hd:P.underlying dst=some (.slice e))(he:P.underlying e=some (.int .u8))(hz:s.size≤maxLen)
  (h: ∀ w' g cap,St w0 F w' ((g,true,Res.obj (gZ e cap s.data.toList))::L)→zg P ops K (Held w0 F Lr) l (a.put o.dst (.slice (some ⟨g,0,none⟩) s.size cap)) w'):zg P ops K (Held w0 F Lr) ((o,c)::l) a w:=by
 have hb:=XV w e s
 refine zM hc hw (w':=Lib.bytesWorld w e s) (v:= .slice (some ⟨w.heap.size,0,none⟩) s.size (grownCap w s.size 0 e)) (n:= .value (.slice (some ⟨w.heap.size,0,none⟩) s.size (grownCap w s.size 0 e))) ?_ (.inl rfl) (fun _ hh=>hh.below (by exact hb)) (h _ _ _ ((hM.below hb).learn (BL w e s hz) (fun y hy=>by have:=hM.lt hy;omega) (fun _=> .inr hM.only.size)))
 unfold execOp
 simp only[hx,e1,Sem.run_bind,Lib.run_convert_string_bytes w src dst e s hs hd he,Result.andThen_ok,Sem.run_pure]
theorem St.kJ(hx:o.op= .call {callee:= .builtin .append,args:= #[x,y],argTypes:= #[ty,ty]}){ow:Bool}{T:TypeId}{v:Nat}{g cap q:Nat}{bs:List UInt8}{u:UInt8}(hq:q=bs.length)(hM:St w0 F w ((b,ow,Res.cells [.int .u8 u.toNat] T)::(g,true,Res.obj (gZ e cap bs))::L))(hc:(c==3)=true)(hw:Region.wanted o (yielded ops a.tmps)=true)(hs:a.eval x= .slice (some ⟨g,0,none⟩) q cap)(hy:a.eval y= .slice (some ⟨b,0,none⟩) 1 v)(hB:appB P ty e 1 1=true)(h63:bs.length+1≤1000000000)
  (h: ∀ w' g' cap',St w0 F w' ((g',true,Res.obj (gZ e cap' (bs++[u])))::L)→zg P ops K (Held w0 F Lr) l (a.put o.dst (.slice (some ⟨g',0,none⟩) (q+1) cap')) w'):zg P ops K (Held w0 F Lr) ((o,c)::l) a w:=by
 subst hq
 obtain⟨i,z,e1,e2,e3,e4,e5,e6,e7⟩:=xR hB
 have o8:w.cell? ⟨b,0,none⟩=some (.int .u8 u.toNat):=Res.cell (r:= .cells [.int .u8 u.toNat] T) (hM.holds _ (.head _)) rfl
 have hnews: ∀ j q,([Value.int .u8 u.toNat]:List Value)[j]? =some q→w.cell? ((⟨b,0,none⟩:Addr).add j)=some q:=fun j q hj=>by
  cases j with
  |zero=>cases hj;exact o8
  |succ j=>simp at hj
 have bm:=hM.forget
 obtain⟨ob,hob,cur,fz,rfl,hcs,gR,oz,hcm,q_⟩:=bm.holds _ (.head _)
 simp only at hob
 have BN:c=3:=by simpa using hc
 subst BN
 by_cases o9:bs.length+1≤cap
 ·have hrun:=run_append_room_cells (P:=P) w ty o.type e i e1 e2 g 0 bs.length cap ⟨b,0,none⟩ 1 v [.int .u8 u.toNat] (by simp[e4]) hnews (by simp[Value.oneCell']) o9 (fun j hj=>by
   have su:j=0:=by simpa using hj
   subst su
   rw[e4]
   simp only[Nat.mul_one,Nat.zero_add,Nat.add_zero]
   rw[cell_of_row _ _ _ _ _ _ hob,Array.getElem?_eq_getElem (by omega)]
   rfl) (fun j hj=>by
   have su:j=0:=by simpa using hj
   subst su
   rw[e4]
   simp only[Nat.mul_one,Nat.zero_add,Nat.add_zero]
   unfold World.frozen?
   simp only[hob]
   rcases gR with rfl|gR
   ·simp
   ·simp
    omega)
  rw[e4] at hrun
  simp only[Nat.mul_one,Nat.zero_add] at hrun
  have hO:Only [g] w (w.setCells g bs.length [.int .u8 u.toNat]):=zY g _ _ _
  have mu:(Res.obj (gZ e cap (bs++[u]))).holds (w.setCells g bs.length [.int .u8 u.toNat]).heap[g]? :=by
   refine⟨_,yW hob bs.length (.int .u8 u.toNat),_,_,rfl,by rw[Array.size_setIfInBounds];exact hcs,gR,by simp;omega,hcm,fun j q hj=> ?_⟩
   by_cases BO:j=bs.length
   ·subst BO
    rw[ldCz (Nat.le_refl _)] at hj
    simp at hj
    subst hj
    rw[Array.getElem?_setIfInBounds_self_of_lt (by omega)]
   ·have mT:j<bs.length:=by
     have:=(laHz.1 hj).1
     simp at this
     omega
    rw[lcQz mT] at hj
    rw[Array.getElem?_setIfInBounds_ne (by omega)]
    exact q_ j q hj
  refine zM (n:= .value (.slice (some ⟨g,0,none⟩) (bs.length+1) cap)) (v:= .slice (some ⟨g,0,none⟩) (bs.length+1) cap) rfl hw ?_ (.inl rfl) (fun h=>by cases h) (h _ _ _ (bm.turn Upd.head hO mu))
  unfold execOp
  simp only[hx,resolve,invoke,builtin,Sem.run_bind,Sem.run_pure,Result.andThen_ok,lbOz,laDz,lbBz,hs,hy,hrun]
 ·obtain⟨v',w2,hrun,hown,hg⟩:=run_append_arg_grows (P:=P) w ty o.type e i z 1 1 e1 e2 e3 e4 e5 e6 e7 ⟨g,0,none⟩ bs.length cap (bs.map fun q=>Value.int .u8 q.toNat) (by simp) (fun j q hj=>by
   rw[lbCz] at hj
   cases hb:bs[j]? with
   |none=>rw[hb] at hj;cases hj
   |some r=>
    rw[hb] at hj
    cases hj
    have:=q_ j r hb
    have ha:(⟨g,0,none⟩:Addr).add j=⟨g,j,none⟩:=by unfold Addr.add;split<;> simp_all
    rw[ha,cell_of_row _ _ _ _ _ _ hob]
    exact this) ⟨b,0,none⟩ 1 v [.int .u8 u.toNat] rfl hnews (by omega) (by rw[zj];omega) (by omega)
  have hbl:Below w.heap.size w w2:=⟨hg.os,hg.tape,hg.output,hg.size,fun k hk=>hg.block k hk (by simp)⟩
  have bJ:=bm.forget.below hbl
  rcases hown.2 with ⟨-,h0⟩|⟨g',cap',o_,rfl,BP,hc',h1,h2,h3,h4⟩
  ·omega
  ·have mu:(Res.obj (gZ e cap' (bs++[u]))).holds w2.heap[g']? :=by
    refine⟨_,hc',_,_,rfl,by simpa using h3,.inl rfl,by simpa using h1,h2,fun j q hj=> ?_⟩
    have mT:=(laHz.1 hj).1
    have e8:o_.toList.take ((bs.length+1)*1)=(bs++[u]).map fun q=>Value.int .u8 q.toNat:=by rw[h4];simp
    have e9:(o_.toList.take ((bs.length+1)*1))[j]? =some (.int .u8 q.toNat):=by rw[e8,lbCz,hj];rfl
    rw[lcKz] at e9
    split at e9
    ·simpa using e9
    ·cases e9
   refine zM (n:= .value (.slice (some ⟨g',0,none⟩) (bs.length+1) cap')) (v:= .slice (some ⟨g',0,none⟩) (bs.length+1) cap') rfl hw ?_ (.inl rfl) (fun h=>by cases h) (h _ _ _ (bJ.learn mu (fun y hy e=> ?_) (fun _=> .inr (Nat.le_trans bm.only.size BP))))
   ·unfold execOp
    simp only[hx,resolve,invoke,builtin,Sem.run_bind,Sem.run_pure,Result.andThen_ok,lbOz,laDz,lbBz,hs,hy,hrun]
   ·have:=bm.forget.lt hy
    omega
theorem St.jY(hx:o.op= .convert src dst x)(hM:St w0 F w L)(hc:(c==3)=true)(hw:Region.wanted o (yielded ops a.tmps)=true){g cap:Nat}{bs:List UInt8}{n:Nat}(hn:n=bs.length)(e1:a.eval x= .slice (some ⟨g,0,none⟩) n cap)(hm:(g,true,Res.obj (gZ e cap bs))∈L)(hs:P.underlying src=some (.slice e))(he:P.underlying e=some (.int .u8))(hd:P.underlying dst=some .string)
  (h:zg P ops K (Held w0 F Lr) l (a.put o.dst (.string ⟨bs.toArray⟩)) w):zg P ops K (Held w0 F Lr) ((o,c)::l) a w:=by
 subst hn
 obtain⟨ob,hob,cur,fz,rfl,hcs,gR,oz,hcm,q_⟩:=hM.holds _ hm
 simp only at hob
 have hr:=run_convert_bytes_back (P:=P) w src dst e ⟨g,0,none⟩ cap bs hs he hd (fun j hj=>by
  have ha:(⟨g,0,none⟩:Addr).add j=⟨g,j,none⟩:=by unfold Addr.add;split<;> simp_all
  rw[ha,cell_of_row _ _ _ _ _ _ hob]
  exact q_ j _ (laRz hj))
 refine zB (by rw[show c=3 by simpa using hc];rfl) hw ?_ h
 unfold execOp
 simp only[hx,e1,Sem.run_bind,hr,Result.andThen_ok,Sem.run_pure]
end
def uW:Value→Nat
 | .slice _ n _=>n
 |_=>0
theorem BQ(s:ByteArray)(k:Nat):(⟨(s.data.toList++List.replicate k 0).toArray⟩:ByteArray)=s++In.noughts k:=by
 refine Pt.ba_ext ?_
 unfold In.noughts
 simp
theorem uX(s:ByteArray)(n:Nat)(hs:s.size≤1048576)(hn:n≤1048576)(w0:World):An 214 #[.string s,.int .i64 n] w0 (.string (s++In.noughts (n - s.size))):=by
 have hM:=St.start w0 []
 go_enter Tryz.func214,Tryz.ntmps214
 (refine qw ?_;intros;rename_i hM)
 refine St.ofString rfl hM rfl rfl rfl Tryz.underlying9 Tryz.underlying254 Tryz.underlying5 (by rw[zj];omega) ?_
 clear hM;intro w g cap hM
 (refine qq ?_)
 (refine qw ?_;intros;rename_i hM)
 go_loopw [5] (fun v wr=> ∃ (q:Nat) (bs:List UInt8) (g cap:Nat),v= .slice (some ⟨g,0,none⟩) q cap∧Hid (q=bs.length∧s.size≤q∧bs=s.data.toList++List.replicate (q - s.size) 0∧(q≤n∨q=s.size))∧St w0 [] wr [(g,true,Res.obj (gZ 5 cap bs))]) (fun v _=>n - (uW v))
 case atStart=>exact⟨s.size,s.data.toList,g,cap,rfl,qh ⟨by simp,Nat.le_refl _,by simp,.inr rfl⟩,hM⟩
 case round=>
  clear hM
  obtain⟨q,bs,g,cap,rfl,HQ,hM⟩:=hrel
  by_cases hlt:q<n
  ·have HL:=qh (show bs.length+1≤1000000000 by have:=HQ.out.1;omega)
   (refine qw ?_;intros;rename_i hM)
   refine St.kJ (u:=0) (T:=5) (e:=5) rfl HQ.out.1 hM rfl rfl rfl rfl (by kernel_rfl) HL.out ?_
   clear hM;intro w g' cap' hM
   have BR:=qh (show q+1=(bs++[(0:UInt8)]).length∧s.size≤q+1∧bs++[0]=s.data.toList++List.replicate (q+1 - s.size) 0∧(q+1≤n∨q+1=s.size) from by
    obtain⟨h1,h2,h3,h4⟩:=HQ.out
    refine⟨by rw[laNz,←h1];rfl,by omega, ?_,.inl hlt⟩
    rw[h3,lcAz,show q+1 - s.size=(q - s.size)+1 by omega,List.replicate_succ'])
   (refine qq ?_)
   (refine qw ?_;intros;rename_i hM)
   (try simp only[Exit.then])
   refine⟨?_, ?_⟩
   ·(focus(repeat(first|exact⟨⟨q+1,_,g',cap',rfl,BR,hM⟩,rfl⟩|apply Exists.intro)))
   ·simp only[zR,qGz,qGs,uW]
    omega
  ·have k1:decide (q<n)=false:=decide_eq_false hlt
   have HE:=qh (show(⟨bs.toArray⟩:ByteArray)=s++In.noughts (n - s.size) from by
    obtain⟨h1,h2,h3,h4⟩:=HQ.out
    rw[h3,BQ]
    congr 2
    omega)
   clear hlt
   (refine qw ?_;intros;rename_i hM)
   refine St.jY (bs:=bs) rfl hM rfl rfl HQ.out.1 rfl qm Tryz.underlying254 Tryz.underlying5 Tryz.underlying9 ?_
   (refine qq ?_)
   (refine qw ?_;intros;rename_i hM)
   (refine qf ?_)
   exact⟨by rw[HE.out];rfl,hM.to_below⟩
end
section
open Go.RowKit Go.Maps
section
variable {P:Program}{K:Act→World→Prop}{a:Act}{w:World}{ops:Array Oper}{l:List (Oper×Nat)}{c:Nat}{o:Oper}{ty:TypeId}{x y z:Operand}{S:World→Prop}{s:ByteArray}
theorem BS(w:World)(hx:o.op= .slice ty x none (some z) none)(e1:a.eval x= .string s){j:Nat}(e3:a.eval z= .int .i64 (j:Int))(ht:P.underlying ty=some .string)(hj:j≤s.size):(execOp a.eval o).run P w= .ok (.value (.string (s.extract 0 j))) w:=by
 have h1:(0:Int)≤(j:Int):=Int.natCast_nonneg j
 unfold execOp
 simp[hx,e1,e3,Instr.sliceAt,Instr.slice,Instr.sliceBounds,Instr.sliceBound,asIntOf,Sem.run_bind,Sem.run_pure,run_underlying ht,h1,hj,Option.map]
theorem BT(w:World)(hx:o.op= .slice ty x (some y) none none)(e1:a.eval x= .string s){i:Nat}(e2:a.eval y= .int .i64 (i:Int))(ht:P.underlying ty=some .string)(hi:i≤s.size):(execOp a.eval o).run P w= .ok (.value (.string (s.extract i s.size))) w:=by
 have h0:(0:Int)≤(i:Int):=Int.natCast_nonneg i
 unfold execOp
 simp[hx,e1,e2,Instr.sliceAt,Instr.slice,Instr.sliceBounds,Instr.sliceBound,asIntOf,Sem.run_bind,Sem.run_pure,run_underlying ht,h0,hi,Option.map]
theorem St.mv(hx:o.op= .slice ty x none (some z) none)(hc:(c==0||c==2||c==3)=true)(hw:Region.wanted o (yielded ops a.tmps)=true)(e1:a.eval x= .string s){j:Nat}(e3:a.eval z= .int .i64 (j:Int))(ht:P.underlying ty=some .string)(hj:j≤s.size)(h:zg P ops K S l (a.put o.dst (.string (s.extract 0 j))) w):zg P ops K S ((o,c)::l) a w:=
 St.soft hc hw (fun w=>BS w hx e1 e3 ht hj) h
theorem St.lO(hx:o.op= .slice ty x (some y) none none)(hc:(c==0||c==2||c==3)=true)(hw:Region.wanted o (yielded ops a.tmps)=true)(e1:a.eval x= .string s){i:Nat}(e2:a.eval y= .int .i64 (i:Int))(ht:P.underlying ty=some .string)(hi:i≤s.size)(h:zg P ops K S l (a.put o.dst (.string (s.extract i s.size))) w):zg P ops K S ((o,c)::l) a w:=
 St.soft hc hw (fun w=>BT w hx e1 e2 ht hi) h
end
namespace In
theorem fq(d:ByteArray)(n:Nat):(d++noughts (n - d.size)).size=max n d.size:=by
 rw[ByteArray.size_append,zaL]
 omega
theorem zfv{l:List NodeD}{n m:NodeD}(h:m.id=n.id):set (set l n) m=set l m:=by
 unfold set
 rw[lbZz]
 refine lbVz fun k _=> ?_
 simp only[Function.comp]
 by_cases hk:k.id=n.id
 ·have q:(k.id==n.id)=true:=beq_iff_eq.2 hk
  rw[if_pos q,if_pos (beq_iff_eq.2 h.symm),if_pos (beq_iff_eq.2 (hk.trans h.symm))]
 ·have q:(k.id==n.id)=false:=qne.2 hk
  have q2:(k.id==m.id)=false:=qne.2 (fun e=>hk (e.trans h))
  simp[q,q2]
section
variable {t:TabD}{N:Nat}
theorem gm(I:Inv N t){id:Int}{y:NodeD}(hn:find t.nodes id=some y)(v:ByteArray):bt t.nodes (y.setData v)=(dataOf t id v).nodes:=by
 unfold dataOf
 rw[at_some hn]
 exact ZY (show 0<y.links∨0<y.holds from (I.alive y (find_some hn).1 (by have:=(I.pos y (find_some hn).1).1;omega)).1)
theorem ed{id n:Int}{e:Int}(he:e≠0)(h:truncE t id n=e):trunc t id n=(e,t):=by
 unfold trunc
 rw[h,qne.2 he]
 rfl
theorem jZ{id n:Int}(h:truncE t id n=0):trunc t id n=(0,sizedT t id n):=by
 unfold trunc
 rw[h]
 rfl
theorem fu{id n:Int}(h:fileE t id n≠0):truncE t id n=fileE t id n:=by
 unfold truncE
 rw[qne.2 h]
 rfl
theorem gn{id n:Int}{y:NodeD}(hn:find t.nodes id=some y)(h:fileE t id n=0):truncE t id n=sizedE t y n:=by
 unfold truncE
 rw[h,at_some hn]
 rfl
end
end In
section
variable {w w' w0:World}{F:List Nat}{L M:List Ent}{zs:List NodV}{x:RX}{t:TabD}{N:Nat}{q nx:Int}
theorem uY{id n:Int}{y:NodeD}(hn:In.find t.nodes id=some y)(h:In.fileE t id n=0):y.dir=false∧0≤n:=by
 rw[XY hn] at h
 cases hd:y.dir with
 |true=>rw[hd] at h;cases h
 |false=>
  rw[hd,if_neg nofun] at h
  split at h
  ·cases h
  ·exact⟨rfl,by omega⟩
theorem BU(h:bR x t zs w0)(I:In.Inv N t)(hN:N≤900000)(id n:Int):
  Calls Tryz.prog 181 #[.pointer (some ⟨x.g,0,none⟩),.int .i64 id,.int .i64 n] w0 fun e w'=>e= .returned (.int .i64 (In.trunc t id n).1)∧cA x t zs (In.trunc t id n).2 w0 w':=by
 cases hf:Zd zs id with
 |none=>
  have hM:=St.start w0 []
  have HC:=qh (fun (W:World) (hb:Below w0.heap.size w0 W)=>xi (h.raw.below hb) n 0 hf)
  unfold nodZ at HC
  have HR:=qh (fun (W:World) (hb:Below w0.heap.size w0 W)=>cA.same h hb)
  have mU:In.fileE t id n=3:=Xs (by rw[h.find id,hf];rfl)
  rw[In.ed (e:=3) (by decide) (by rw[In.fu (by rw[mU];decide),mU])]
  clear h hf I mU
  simp only
  go_enter Tryz.func181,Tryz.ntmps181
  (refine qw ?_;intros;rename_i hM)
  (refine qCB (HC.out _ hM.to_below) hM ?_;clear hM;intro w' hM)
  (refine qw ?_;intros;rename_i hM)
  (refine qf ?_)
  exact⟨rfl,HR.out _ hM.to_below⟩
 |some y=>
  have hy:=(zu hf).1
  have hn:In.find t.nodes id=some y.1:=by rw[h.find id,hf];rfl
  (obtain⟨g,xs,va,vc,U,rfl,hv,hU,hM,dX,dZ,bW,HB⟩:=XR h)
  obtain⟨ya,yc,bD,-⟩:=zf (h.raw.names y hy)
  have HG:=qh (fun (W:World) (hA:At ((g,true,Res.cells [.int .i64 t.quota,.int .i64 (t.last+1),.slice va zs.length vc] 146)::U) W)=>xj (bW.out W hA).raw n 0 hf)
  rw[uS h hf] at HG
  by_cases hc:In.fileE t id n=0
  ·obtain⟨bn,mr⟩:=uY hn hc
   have lJ:=qh (fun (W:World) (hA:At ((g,true,Res.cells [.int .i64 t.quota,.int .i64 (t.last+1),.slice va zs.length vc] 146)::U) W)=>uV (bW.out W hA) I hy n mr)
   rw[NodV.open bD] at HG lJ
   rw[hc] at HG
   rw[bn] at HG lJ
   by_cases he:In.sizedE t y.1 n=0
   ·have HE:=qh (In.jZ (t:=t) (id:=id) (n:=n) (by rw[In.gn hn hc];exact he))
    rw[he] at lJ
    obtain⟨hsz,-⟩:=In.sizedE_ok he
    obtain⟨m,rfl⟩: ∃ m:Nat,n=m:=⟨n.toNat,by omega⟩
    have hds:=h.dl I y hy
    have lK:=qh (fun W=>uX y.1.data m hds (by omega) W)
    have q9:=qh (show m≤(y.1.data++In.noughts (m - y.1.data.size)).size by rw[In.fq];omega)
    obtain⟨v,hv0⟩: ∃ v,(y.1.data++In.noughts (m - y.1.data.size)).extract 0 m=v:=⟨_,rfl⟩
    have HID:=qh (h.ids I)
    have gQ:=qh (show(rset zs ((y.1.setData v,y.2):NodV)).map (·.1)=(In.sizedT t id m).nodes by
     rw[zU,h.nodes]
     show In.bt t.nodes (y.1.setData v)=(In.dataOf t id (In.resized (In.at_ t id).data (m:Int).toNat)).nodes
     rw[In.gm I hn,In.at_some hn,←hv0]
     rfl)
    have iY:=qh (show NodV.cells (y.1.setData v,y.2)=[.int .i64 y.1.id,.bool false,.int .i64 y.1.links,.int .i64 y.1.holds,.string v,.slice ya y.1.names.length yc] by rw[NodV.open (z:=(y.1.setData v,y.2)) bD,←bn];rfl)
    (have HH:=qh h;have HI:=qh I;clear h I hv hU)
    have HV:=qh hv0
    clear bn mr bD hc he hsz hds hv0
    go_enter Tryz.func181,Tryz.ntmps181
    (refine qw ?_;intros;rename_i hM)
    (refine qCB (HG.out _ (hM.part qpt)) hM ?_;clear hM;intro w' hM)
    (refine qw ?_;intros;rename_i hM)
    (refine qCB (lJ.out _ (hM.part qpt)) hM ?_;clear hM;intro w' hM)
    (refine qw ?_;intros;rename_i hM)
    (refine qCB (lK.out _) hM ?_;clear hM;intro w' hM)
    (refine qw ?_;intros;rename_i hM)
    refine St.mv rfl rfl rfl rfl rfl Tryz.underlying9 q9.out ?_
    rw[HV.out]
    (refine qq ?_)
    (refine qw ?_;intros;rename_i hM)
    (refine qK3 (fun R hR=> ?_))
    rw[←dZ.out] at hM
    have C:=yq dX.out hM qsf HID.out hy (n:=y.1.setData v) rfl rfl
    rw[iY.out] at C
    refine C.mono ?_
    clear C
    rintro e w' ⟨rfl,s2,bm,d_⟩;refine hR.out _ _ ?_;clear hR R hM
    have hM:=bm
    clear bm
    (refine qq ?_)
    (refine qw ?_;intros;rename_i hM)
    (refine qf ?_)
    rw[HE.out]
    exact⟨rfl,s2,_,gQ.out,d_.to (At.gI (hM.part qpt)) hM.only⟩
   ·have q2:(In.sizedE t y.1 n != 0)=true:=bne_iff_ne.2 he
    have HE:=qh (In.ed (t:=t) (id:=id) (n:=n) he (In.gn hn hc))
    generalize In.sizedE t y.1 n=c at*
    (have HH:=qh h;have HI:=qh I;clear h I hv hU)
    clear bn mr bD hc he
    go_enter Tryz.func181,Tryz.ntmps181
    (refine qw ?_;intros;rename_i hM)
    (refine qCB (HG.out _ (hM.part qpt)) hM ?_;clear hM;intro w' hM)
    (refine qw ?_;intros;rename_i hM)
    (refine qCB (lJ.out _ (hM.part qpt)) hM ?_;clear hM;intro w' hM)
    (refine qw ?_;intros;rename_i hM)
    ((refine qf ?_);(rw[HE.out]);exact⟨rfl,HB.out _ (hM.part qpt) hM.only⟩)
  ·have q1:(In.fileE t id n != 0)=true:=bne_iff_ne.2 hc
   have HE:=qh (In.ed (t:=t) (id:=id) (n:=n) hc (In.fu hc))
   rw[NodV.open bD] at HG
   generalize In.fileE t id n=c at*
   (have HH:=qh h;have HI:=qh I;clear h I hv hU)
   clear bD hc
   go_enter Tryz.func181,Tryz.ntmps181
   (refine qw ?_;intros;rename_i hM)
   (refine qCB (HG.out _ (hM.part qpt)) hM ?_;clear hM;intro w' hM)
   (refine qw ?_;intros;rename_i hM)
   ((refine qf ?_);(rw[HE.out]);exact⟨rfl,HB.out _ (hM.part qpt) hM.only⟩)
end
end
section
open Go.RowKit Go.Maps
namespace In
section
variable {t:TabD}{N:Nat}
theorem bZ{id a:Int}{s:ByteArray}{e:Int}(he:e≠0)(h:writeE t id a s=e):write t id a s=(e,t):=by
 unfold write
 rw[h,qne.2 he]
 rfl
theorem gp{id a:Int}{s:ByteArray}(h:writeE t id a s=0):write t id a s=(0,writeT t id a s):=by
 unfold write
 rw[h]
 rfl
theorem fv{id a:Int}{s:ByteArray}(h:fileE t id a≠0):writeE t id a s=fileE t id a:=by
 unfold writeE
 rw[qne.2 h]
 rfl
theorem b_{id a:Int}{s:ByteArray}{y:NodeD}(hn:find t.nodes id=some y)(h:fileE t id a=0):writeE t id a s=if 1048576<a∨1048576 - a<s.size then 5 else if s.size=0 then 0 else sizedE t y (max (a+s.size) y.data.size):=by
 unfold writeE
 rw[h,at_some hn]
 by_cases h1:1048576<a
 ·simp[h1]
 ·by_cases h2:1048576 - a<s.size
  ·simp[h2]
  ·by_cases h3:s.size=0
   ·simp[h1,h2,h3]
   ·simp[h1,h2,h3]
theorem gJ{id:Int}{y:NodeD}(hn:find t.nodes id=some y)(a m:Nat)(s:ByteArray)(h0:s.size≠0)(hm:max ((a:Int)+s.size) y.data.size=(m:Int)):(writeT t id a s).nodes=(dataOf t id (over (resized y.data m) a s)).nodes:=by
 have hs:(s.size==0)=false:=qne.2 h0
 have hi:=(find_some hn).2
 unfold writeT
 rw[hs,if_neg nofun,at_some hn,hm]
 have hf:find (sizedT t id m).nodes id=some (y.setData (resized y.data m)):=by
  unfold sizedT
  rw[at_some hn]
  show find (dataOf t id (resized y.data (m:Int).toNat)).nodes id=_
  rw[zbc hn,if_pos rfl]
  rfl
 unfold overT dataOf
 rw[at_some hf,at_some hn]
 show set (sizedT t id m).nodes _=set t.nodes _
 unfold sizedT
 rw[at_some hn]
 show set (dataOf t id (resized y.data (m:Int).toNat)).nodes _=_
 unfold dataOf
 rw[at_some hn]
 exact zfv rfl
theorem g_(id a:Int)(s:ByteArray):(writeT t id a s).quota=t.quota∧(writeT t id a s).last=t.last:=by unfold writeT;split<;> exact⟨rfl,rfl⟩
theorem gK{id a:Int}{s:ByteArray}(h0:s.size=0):writeT t id a s=t:=by unfold writeT;rw[h0];rfl
end
end In
section
variable {w w' w0:World}{F:List Nat}{L M:List Ent}{zs:List NodV}{x:RX}{t:TabD}{N:Nat}{q nx:Int}
theorem BV(h:bR x t zs w0)(I:In.Inv N t)(hN:N≤900000)(id a:Int)(s:ByteArray)(hs:s.size≤1000000000):
  Calls Tryz.prog 180 #[.pointer (some ⟨x.g,0,none⟩),.int .i64 id,.int .i64 a,.string s] w0 fun e w'=>e= .returned (.int .i64 (In.write t id a s).1)∧cA x t zs (In.write t id a s).2 w0 w':=by
 cases hf:Zd zs id with
 |none=>
  have hM:=St.start w0 []
  have HC:=qh (fun (W:World) (hb:Below w0.heap.size w0 W)=>xi (h.raw.below hb) a 0 hf)
  unfold nodZ at HC
  have HR:=qh (fun (W:World) (hb:Below w0.heap.size w0 W)=>cA.same h hb)
  have mU:In.fileE t id a=3:=Xs (by rw[h.find id,hf];rfl)
  rw[In.bZ (e:=3) (by decide) (by rw[In.fv (by rw[mU];decide),mU])]
  clear h hf I mU
  simp only
  go_enter Tryz.func180,Tryz.ntmps180
  (refine qw ?_;intros;rename_i hM)
  (refine qCB (HC.out _ hM.to_below) hM ?_;clear hM;intro w' hM)
  (refine qw ?_;intros;rename_i hM)
  (refine qf ?_)
  exact⟨rfl,HR.out _ hM.to_below⟩
 |some y=>
  have hy:=(zu hf).1
  have hn:In.find t.nodes id=some y.1:=by rw[h.find id,hf];rfl
  (obtain⟨g,xs,va,vc,U,rfl,hv,hU,hM,dX,dZ,bW,HB⟩:=XR h)
  obtain⟨ya,yc,bD,-⟩:=zf (h.raw.names y hy)
  have HG:=qh (fun (W:World) (hA:At ((g,true,Res.cells [.int .i64 t.quota,.int .i64 (t.last+1),.slice va zs.length vc] 146)::U) W)=>xj (bW.out W hA).raw a 0 hf)
  rw[uS h hf] at HG
  by_cases hc:In.fileE t id a=0
  ·obtain⟨bn,pc⟩:=uY hn hc
   rw[NodV.open bD] at HG
   rw[hc] at HG
   rw[bn] at HG
   obtain⟨k,rfl⟩: ∃ k:Nat,a=k:=⟨a.toNat,by omega⟩
   by_cases h5:1048576<(k:Int)
   ·have HE:=qh (In.bZ (t:=t) (id:=id) (a:=k) (s:=s) (e:=5) (by decide) (by rw[In.b_ hn hc,if_pos (.inl h5)]))
    have k5:(1048576:Int)<(k:Int):=h5
    (have HH:=qh h;have HI:=qh I;clear h I hv hU)
    clear bn pc bD hc h5
    go_enter Tryz.func180,Tryz.ntmps180
    (refine qw ?_;intros;rename_i hM)
    (refine qCB (HG.out _ (hM.part qpt)) hM ?_;clear hM;intro w' hM)
    (refine qw ?_;intros;rename_i hM)
    ((refine qf ?_);(rw[HE.out]);exact⟨rfl,HB.out _ (hM.part qpt) hM.only⟩)
   ·have k5:decide ((1048576:Int)<(k:Int))=false:=decide_eq_false h5
    obtain⟨e1,ku⟩: ∃ e1:Nat,k+s.size=e1:=⟨_,rfl⟩
    have iX:IntKind.i64.wrap ((k:Int)+(s.size:Int))=(e1:Int):=by rw[Za _ (by omega)];omega
    by_cases h6:1048576<e1
    ·have HE:=qh (In.bZ (t:=t) (id:=id) (a:=k) (s:=s) (e:=5) (by decide) (by rw[In.b_ hn hc,if_pos (.inr (by omega))]))
     have k6:(1048576:Int)<(e1:Int):=by omega
     (have HH:=qh h;have HI:=qh I;clear h I hv hU)
     clear bn pc bD hc h5 ku
     go_enter Tryz.func180,Tryz.ntmps180
     (refine qw ?_;intros;rename_i hM)
     (refine qCB (HG.out _ (hM.part qpt)) hM ?_;clear hM;intro w' hM)
     (refine qw ?_;intros;rename_i hM)
     ((refine qf ?_);(rw[HE.out]);exact⟨rfl,HB.out _ (hM.part qpt) hM.only⟩)
    ·have k6:decide ((1048576:Int)<(e1:Int))=false:=decide_eq_false (by omega)
     by_cases h0:s.size=0
     ·have hs0:s=⟨#[]⟩:=Pt.ba_ext (by rw[show s.data.toList=[] from lbWz.1 (by rw[←Lib.size_eq];exact h0)])
      have HE:=qh (show In.write t id k s=(0,t) by rw[In.gp (by rw[In.b_ hn hc,if_neg (by omega),if_pos h0]),In.gK h0])
      have e0:=Zn (s:=s) (l:=[]) (by rw[hs0])
      (have HH:=qh h;have HI:=qh I;clear h I hv hU)
      clear bn pc bD hc h5 ku h6 h0 hs0
      go_enter Tryz.func180,Tryz.ntmps180
      (refine qw ?_;intros;rename_i hM)
      (refine qCB (HG.out _ (hM.part qpt)) hM ?_;clear hM;intro w' hM)
      (refine qw ?_;intros;rename_i hM)
      ((refine qf ?_);(rw[HE.out]);exact⟨rfl,HB.out _ (hM.part qpt) hM.only⟩)
     ·have e0:=Zt (s:=s) (l:=[]) (fun e=>h0 (by rw[Lib.size_eq,e];rfl))
      have hds:=h.dl I y hy
      obtain⟨m,hm⟩: ∃ m:Nat,max y.1.data.size e1=m:=⟨_,rfl⟩
      have hmx:(if y.1.data.size<e1 then(e1:Int) else(y.1.data.size:Int))=(m:Int):=by split<;> omega
      have BW:max (y.1.data.size:Int) (e1:Int)=(m:Int):=by omega
      have pe:max ((k:Int)+s.size) y.1.data.size=(m:Int):=by omega
      have lJ:=qh (fun (W:World) (hA:At ((g,true,Res.cells [.int .i64 t.quota,.int .i64 (t.last+1),.slice va zs.length vc] 146)::U) W)=>uV (bW.out W hA) I hy m (Int.natCast_nonneg m))
      rw[NodV.open bD,bn] at lJ
      by_cases he:In.sizedE t y.1 m=0
      ·have HE:=qh (In.gp (t:=t) (id:=id) (a:=k) (s:=s) (by rw[In.b_ hn hc,if_neg (by omega),if_neg h0,pe];exact he))
       rw[he] at lJ
       obtain⟨hsz,-⟩:=In.sizedE_ok he
       have lK:=qh (fun W=>uX y.1.data m hds (by omega) W)
       have lP:(y.1.data++In.noughts (m - y.1.data.size)).size=m:=by rw[In.fq];omega
       obtain⟨v,hv0⟩: ∃ v,(y.1.data++In.noughts (m - y.1.data.size)).extract 0 k++s++(y.1.data++In.noughts (m - y.1.data.size)).extract e1 (y.1.data++In.noughts (m - y.1.data.size)).size=v:=⟨_,rfl⟩
       have HID:=qh (h.ids I)
       have gQ:=qh (show(rset zs ((y.1.setData v,y.2):NodV)).map (·.1)=(In.writeT t id k s).nodes by
        rw[zU,h.nodes,In.gJ hn k m s h0 pe]
        show In.bt t.nodes (y.1.setData v)=_
        rw[In.gm I hn,←hv0]
        have hr:In.resized y.1.data m=y.1.data++In.noughts (m - y.1.data.size):=by
         show ByteArray.extract _ 0 m=_
         generalize y.1.data++In.noughts (m - y.1.data.size)=X at lP ⊢
         rw[←lP,ByteArray.extract_zero_size]
        rw[hr]
        unfold In.over
        rw[ku])
       have iY:=qh (show NodV.cells (y.1.setData v,y.2)=[.int .i64 y.1.id,.bool false,.int .i64 y.1.links,.int .i64 y.1.holds,.string v,.slice ya y.1.names.length yc] by rw[NodV.open (z:=(y.1.setData v,y.2)) bD,←bn];rfl)
       obtain⟨Y,hY⟩: ∃ Y,y.1.data++In.noughts (m - y.1.data.size)=Y:=⟨_,rfl⟩
       rw[hY] at lK hv0 lP
       have HK1:=qh (show k≤Y.size by omega)
       have HK2:=qh (show e1≤Y.size by omega)
       obtain⟨v1,gS⟩: ∃ v1,Y.extract 0 k=v1:=⟨_,rfl⟩
       obtain⟨v3,iP⟩: ∃ v3,Y.extract e1 Y.size=v3:=⟨_,rfl⟩
       have BX:v1.size≤1048576:=by rw[←gS,ByteArray.size_extract];omega
       have BY:v3.size≤1048576:=by rw[←iP,ByteArray.size_extract];omega
       have HV:=qh (show v1++s++v3=v by rw[←gS,←iP];exact hv0)
       have BZ:=qh gS
       have HV3:=qh iP
       (have HH:=qh h;have HI:=qh I;clear h I hv hU)
       clear bn pc bD hc h5 ku h6 h0 he hm pe hds hsz lP hv0 hY gS iP
       go_enter Tryz.func180,Tryz.ntmps180
       (refine qw ?_;intros;rename_i hM)
       (refine qCB (HG.out _ (hM.part qpt)) hM ?_;clear hM;intro w' hM)
       (refine qw ?_;intros;rename_i hM)
       (refine qCB (lJ.out _ (hM.part qpt)) hM ?_;clear hM;intro w' hM)
       (refine qw ?_;intros;rename_i hM)
       (refine qCB (lK.out _) hM ?_;clear hM;intro w' hM)
       (refine qw ?_;intros;rename_i hM)
       refine St.mv rfl rfl rfl rfl rfl Tryz.underlying9 HK1.out ?_
       rw[BZ.out]
       (refine qq ?_)
       (refine qw ?_;intros;rename_i hM)
       refine St.lO rfl rfl rfl rfl rfl Tryz.underlying9 HK2.out ?_
       rw[HV3.out]
       (refine qq ?_)
       (repeat(first|(refine qWo ?_;clear hM;intros;rename_i hM)|((refine qMk ?_);clear hM;intro w bk hM)))
       rw[HV.out] at hM
       (refine qw ?_;intros;rename_i hM)
       (refine qK3 (fun R hR=> ?_))
       rw[←dZ.out] at hM
       have C:=yq dX.out hM qsf HID.out hy (n:=y.1.setData v) rfl rfl
       rw[iY.out] at C
       refine C.mono ?_
       clear C
       rintro e w' ⟨rfl,s2,bm,d_⟩;refine hR.out _ _ ?_;clear hR R hM
       have hM:=bm
       clear bm
       (refine qq ?_)
       (refine qw ?_;intros;rename_i hM)
       (refine qf ?_)
       rw[HE.out]
       refine⟨rfl,s2,_,gQ.out, ?_⟩
       rw[(In.g_ (t:=t) id k s).1,(In.g_ (t:=t) id k s).2]
       exact d_.to (At.gI (hM.part qpt)) hM.only
      ·have q2:(In.sizedE t y.1 m != 0)=true:=bne_iff_ne.2 he
       have HE:=qh (In.bZ (t:=t) (id:=id) (a:=k) (s:=s) he (by rw[In.b_ hn hc,if_neg (by omega),if_neg h0,pe]))
       generalize In.sizedE t y.1 m=c at*
       (have HH:=qh h;have HI:=qh I;clear h I hv hU)
       clear bn pc bD hc h5 ku h6 h0 he hm pe hds
       go_enter Tryz.func180,Tryz.ntmps180
       (refine qw ?_;intros;rename_i hM)
       (refine qCB (HG.out _ (hM.part qpt)) hM ?_;clear hM;intro w' hM)
       (refine qw ?_;intros;rename_i hM)
       (refine qCB (lJ.out _ (hM.part qpt)) hM ?_;clear hM;intro w' hM)
       (refine qw ?_;intros;rename_i hM)
       ((refine qf ?_);(rw[HE.out]);exact⟨rfl,HB.out _ (hM.part qpt) hM.only⟩)
  ·have q1:(In.fileE t id a != 0)=true:=bne_iff_ne.2 hc
   have HE:=qh (In.bZ (t:=t) (id:=id) (a:=a) (s:=s) hc (In.fv hc))
   rw[NodV.open bD] at HG
   generalize In.fileE t id a=c at*
   (have HH:=qh h;have HI:=qh I;clear h I hv hU)
   clear bD hc
   go_enter Tryz.func180,Tryz.ntmps180
   (refine qw ?_;intros;rename_i hM)
   (refine qCB (HG.out _ (hM.part qpt)) hM ?_;clear hM;intro w' hM)
   (refine qw ?_;intros;rename_i hM)
   ((refine qf ?_);(rw[HE.out]);exact⟨rfl,HB.out _ (hM.part qpt) hM.only⟩)
end
end
section
open Go.RowKit Go.Maps
section
variable {w w' w0:World}{F:List Nat}{L M:List Ent}{zs:List NodV}{x:RX}{t:TabD}{N:Nat}{q nx:Int}
def mV(t:TabD)(dir:Int)(w:World)(e:Ending)(w':World):Prop:=
 ∃ s,e= .returned (.tuple #[slV s (In.list t dir).length,.int .i64 (In.listE t dir)])∧TxOK s (In.list t dir)∧St w [] w' (txL s (In.list t dir))
theorem uZ{dir:Int}(h:In.listE t dir≠0):In.list t dir=[]:=by
 unfold In.list
 rw[qne.2 h]
 rfl
theorem B0{dir:Int}{d:NodeD}(hd:In.find t.nodes dir=some d)(h:In.listE t dir=0):In.list t dir=d.names.map Prod.fst:=by
 unfold In.list
 rw[h,In.at_some hd]
 rfl
theorem B3(h:bR x t zs w0)(I:In.Inv N t)(hN:N≤900000)(dir:Int):
  Calls Tryz.prog 138 #[.pointer (some ⟨x.g,0,none⟩),.int .i64 dir] w0 (mV t dir w0):=by
 have hM:=St.start w0 []
 unfold mV
 cases hf:Zd zs dir with
 |none=>
  have HC:=qh (fun (W:World) (hb:Below w0.heap.size w0 W)=>xZ (h.raw.below hb) hf)
  unfold nodZ at HC
  have hE:In.listE t dir=3:=In.dh (by rw[h.find dir,hf];rfl)
  rw[uZ (by rw[hE];decide),hE]
  clear h hf I hE
  go_enter Tryz.func138,Tryz.ntmps138
  (repeat(first|(refine qW ?_;intros;rename_i hM)|(refine qMk ?_;clear hM;intro w bk hM)))
  (refine qCB (HC.out _ hM.to_below) hM ?_;clear hM;intro w' hM)
  (repeat(first|(refine qW ?_;intros;rename_i hM)|(refine qMk ?_;clear hM;intro w bk hM)))
  (refine qf ?_)
  exact⟨none,rfl,⟨rfl,rfl⟩,hM.forget⟩
 |some z=>
  have hz:=(zu hf).1
  have hd:In.find t.nodes dir=some z.1:=by rw[h.find dir,hf];rfl
  have HC:=qh (fun (W:World) (hb:Below w0.heap.size w0 W)=>Zl (h.raw.below hb) hf)
  obtain⟨wa,wc,hwv,sv⟩:=zf (h.raw.names z hz)
  rw[NodV.open hwv] at HC
  have oA:In.listE t dir=if z.1.dir==true then 0 else 12:=In.aI hd
  cases iN:z.1.dir with
  |false=>
   rw[iN] at oA HC
   have hE:In.listE t dir=12:=oA
   rw[uZ (by rw[hE];decide),hE]
   clear h hf I hE oA hz hd hwv iN sv
   go_enter Tryz.func138,Tryz.ntmps138
   (repeat(first|(refine qW ?_;intros;rename_i hM)|(refine qMk ?_;clear hM;intro w bk hM)))
   (refine qCB (HC.out _ hM.to_below) hM ?_;clear hM;intro w' hM)
   (repeat(first|(refine qW ?_;intros;rename_i hM)|(refine qMk ?_;clear hM;intro w bk hM)))
   (refine qf ?_)
   exact⟨none,rfl,⟨rfl,rfl⟩,hM.forget⟩
  |true=>
   rw[iN] at oA HC
   have hE:In.listE t dir=0:=oA
   rw[B0 hd hE,hE]
   have hnm:=h.raw.nm (h.nl I hN) hz
   have hln:=hnm.len
   have HH:=qh hnm.has
   have HK:=qh hnm.ok
   clear h hf I hE oA hz hd hwv iN hnm
   obtain⟨⟨zi,zd,zl,zh,zb,zn⟩,zp⟩:=z
   simp only at HC HH HK hln sv ⊢
   go_enter Tryz.func138,Tryz.ntmps138
   (repeat(first|(refine qW ?_;intros;rename_i hM)|(refine qMk ?_;clear hM;intro w bk hM)))
   (refine qCB (HC.out _ hM.to_below) hM ?_;clear hM;intro w' hM)
   (repeat(first|(refine qW ?_;intros;rename_i hM)|(refine qMk ?_;clear hM;intro w bk hM)))
   go_loopw [8,9] (fun o i wr=> ∃ (k:Nat) (s':Option (Nat×Nat)),k≤zn.length∧o=slV s' k∧i= .int .i64 k∧SlOK s' k (((zn.take k).map Prod.fst).map Value.string) 1∧St w0 [] wr ((bk,true,Res.cells [.int .i64 zi,.bool true,.int .i64 zl,.int .i64 zh,.string zb,.slice wa zn.length wc] 124)::txL s' ((zn.take k).map Prod.fst))) (fun _ i _=>zn.length - (intOf i).toNat)
   case atStart=>exact⟨0,none,by omega,rfl,rfl,⟨rfl,rfl⟩,hM⟩
   case round=>
    clear hM
    obtain⟨k,s',hk,rfl,rfl,hok,hM⟩:=hrel
    have HOK:=qh hok
    clear hok
    obtain⟨ua,uc,hu,-⟩:=zf HOK.out
    by_cases hlt:k<zn.length
    ·obtain⟨p,hp⟩:=zK hlt
     have k1:(k:Int)<(zn.length:Int):=by omega
     rcases zp with _|⟨g1,cap1⟩
     ·exact absurd HK.out.2 (by simp only;omega)
     obtain⟨rfl,rfl⟩:=sv g1 cap1 rfl
     have r1:=zaZ HH.out hp
     have c0:w0.cell? ⟨g1,k*2,none⟩=some (.string p.1):=r1 0 _ rfl
     have HT:=qh (show((zn.take k).map Prod.fst).map Value.string++[.string p.1]=((zn.take (k+1)).map Prod.fst).map Value.string by rw[lbJz,hp,Option.toList_some,laMz,laMz];rfl)
     clear hp r1
     rw[hu]
     (repeat(first|(refine qW ?_;intros;rename_i hM)|(refine qMk ?_;clear hM;intro w bk hM)))
     rw[←hu]
     refine St.append (s:=s') (n:=k) (xs:=((zn.take k).map Prod.fst).map Value.string) rfl hM rfl rfl rfl rfl rfl (by kernel_rfl) qsf HOK.out rfl (hM.news qm) rfl (by rw[zj];omega) (by omega) (fun h=>by cases h) ?_
     clear hM;intro w s2 hM hk' hs'
     simp only[Res.known] at hM hk'
     rw[HT.out] at hM hk'
     have HK':=qh hk'
     clear hk' hs' HOK
     obtain⟨ub,ud,hu2,-⟩:=zf HK'.out
     rw[hu2]
     (refine qq ?_)
     (repeat(first|(refine qW ?_;intros;rename_i hM)|(refine qMk ?_;clear hM;intro w bk hM)))
     replace hM:=hM.forget
     (try simp only[Exit.then])
     rw[←hu2]
     (refine⟨?_,qio⟩;repeat(first|exact⟨⟨k+1,s2,by omega,rfl,rfl,HK'.out,hM⟩,rfl⟩|apply Exists.intro))
    ·have k0:¬((k:Int)<(zn.length:Int)):=by omega
     obtain rfl:k=zn.length:=by omega
     rw[lbSz] at hM HOK
     clear hlt hk
     rw[hu]
     (repeat(first|(refine qW ?_;intros;rename_i hM)|(refine qMk ?_;clear hM;intro w bk hM)))
     (refine qf ?_)
     rw[lbMz]
     refine⟨s',by rw[hu];rfl, ?_,hM.forget⟩
     have:=HOK.out
     unfold TxOK
     rw[lbMz]
     exact this
theorem B4(qt:Int)(h0:64≤qt)(h1:qt≤1099511627776)(w0:World):Calls Tryz.prog 132 #[.int .i64 qt] w0 fun e w'=> ∃ g s zs,e= .returned (.tuple #[.pointer (some ⟨g,0,none⟩),.int .i64 0])∧zs.map (·.1)=(In.new qt).nodes∧zs.flatMap NodV.ents=[]∧St w0 [] w' (gf ⟨g,s⟩ qt 2 zs)∧yV s zs∧(∀ z∈zs,SlOK z.2 z.1.names.length (entC z.1.names) 2)∧zs.length≤1000000:=by
 have hM:=St.start w0 []
 have k1:decide (qt<64)=false:=decide_eq_false (by omega)
 have k2:decide (1099511627776<qt)=false:=decide_eq_false (by omega)
 clear h0 h1
 go_enter Tryz.func132,Tryz.ntmps132
 try(refine qW ?_;clear hM;intros;rename_i hM)
 ((refine qMk ?_);clear hM;intro w u4 hM)
 (repeat(first|(refine qW ?_;intros;rename_i hM)|(refine qMk ?_;clear hM;intro w bk hM)))
 (refine qf ?_)
 refine⟨bk,some (u4,1),[((⟨1,true,1,0,ByteArray.empty,[]⟩,none):NodV)],rfl,rfl,rfl, ?_,⟨rfl,by decide,by rw[zj];decide⟩,fun z hz=> ?_,by decide⟩
 ·exact hM.weaken (b:=u4) (ow:=true) (r':= .pre [.int .i64 1,.bool true,.int .i64 1,.int .i64 0,.string ⟨#[]⟩,.slice none 0 0] 124 (1*6)) qm (fun h=>Res.toPre rfl h)
 ·rcases laGz.1 hz with rfl
  exact⟨rfl,rfl⟩
theorem B5(qt:Int)(h:qt<64∨1099511627776<qt)(w0:World):An 132 #[.int .i64 qt] w0 (.tuple #[.pointer none,.int .i64 1]):=by
 have hM:=St.start w0 []
 by_cases h1:qt<64
 ·clear h
  go_enter Tryz.func132,Tryz.ntmps132
  exact qwf
 ·have k1:decide (qt<64)=false:=decide_eq_false h1
  have k2:1099511627776<qt:=h.resolve_left h1
  clear h h1
  go_enter Tryz.func132,Tryz.ntmps132
  exact qwf
end
end
section
open Go.RowKit Go.Maps
structure ae where
 owner:Int
 num:Int
 id:Int
def ae.cells(h:ae):List Value:=[.int .i64 h.owner,.int .i64 h.num,.int .i64 h.id]
structure bQ where
 f:Nat
 x:RX
 h:Option (Nat×Nat)
abbrev aX(s:Option (Nat×Nat))(hs:List ae):List Ent:=slL s (hs.flatMap ae.cells) 148 3
abbrev ra(s:Option (Nat×Nat))(hs:List ae):Prop:=SlOK s hs.length (hs.flatMap ae.cells) 3
def fw(X:bQ)(n:Nat):Ent:=(X.f,true,.cells [.pointer (some ⟨X.x.g,0,none⟩),slV X.h n] 76)
def bw(X:bQ)(q nx:Int)(zs:List NodV)(hs:List ae):List Ent:=fw X hs.length::(aX X.h hs++rL X.x q nx zs)
def eO(X:bQ)(hs:List ae):List Nat:=X.f::(ze (aX X.h hs)++[X.x.g])
structure av (X:bQ) (t:TabD) (zs:List NodV) (hs:List ae) (w:World):Prop where
 at_:At (bw X t.quota (t.last+1) zs hs) w
 sl:yV X.x.s zs
 names: ∀ z∈zs,SlOK z.2 z.1.names.length (entC z.1.names) 2
 len:zs.length≤1000000
 nodes:zs.map (·.1)=t.nodes
 hok:ra X.h hs
 hlen:hs.length≤1000000
section
variable {w w' w0:World}{X:bQ}{t:TabD}{zs:List NodV}{hs:List ae}{N:Nat}
theorem av.tbl(h:av X t zs hs w):bR X.x t zs w:=⟨RRaw.of (h.at_.sub (by unfold bw;exact(laFz _ _).cons _)) h.sl h.names h.len,h.nodes⟩
theorem av.row(h:av X t zs hs w):w.rangeAt X.f 0 [.pointer (some ⟨X.x.g,0,none⟩),slV X.h hs.length]:=Res.range (q:=0) (n:=2) (h.at_.has (fw X hs.length) (by unfold bw;exact .head _)) (Nat.le_refl _)
theorem av.hnd(h:av X t zs hs w):At (aX X.h hs) w:=h.at_.sub (by unfold bw;exact(lbAz _ _).cons _)
theorem av.below(h:av X t zs hs w)(hb:Below w.heap.size w w'):av X t zs hs w':=⟨h.at_.below hb,h.sl,h.names,h.len,h.nodes,h.hok,h.hlen⟩
theorem ae.len(z:ae):z.cells.length=3:=rfl
theorem sw: ∀ hs:List ae,(hs.flatMap ae.cells).length=hs.length*3
 |[]=>rfl
 |z::r=>by rw[laOz,laNz,sw r,laPz,ae.len];omega
theorem B6{hs:List ae}{k:Nat}{z:ae}(h:hs[k]? =some z):((hs.flatMap ae.cells).drop (k*3)).take 3=z.cells:=by
 induction hs generalizing k with
 |nil=>simp at h
 |cons y r ih=>
  rw[laOz]
  cases k with
  |zero=>
   simp only[lbPz,Option.some.injEq] at h
   subst h
   rw[Nat.zero_mul,ldBz,lcXz (by rw[ae.len];omega)]
   rfl
  |succ k=>
   rw[lbFz] at h
   rw[show(k+1)*3=y.cells.length+k*3 by rw[ae.len];omega,List.drop_append,List.drop_of_length_le (by omega),Nat.add_sub_cancel_left,laJz]
   exact ih h
theorem rf{g cap:Nat}(hA:At (aX (some (g,cap)) hs) w){k:Nat}{z:ae}(hz:hs[k]? =some z):w.rangeAt g (k*3) z.cells:=by
 have hk:=(laHz.1 hz).1
 have:=Res.range (q:=k*3) (n:=3) (hA.has (g,true,.pre (hs.flatMap ae.cells) 148 (cap*3)) (.head _)) (by show k*3+3≤(hs.flatMap ae.cells).length;rw[sw];omega)
 rw[show(Res.pre (hs.flatMap ae.cells) 148 (cap*3)).known=hs.flatMap ae.cells from rfl,B6 hz] at this
 exact this
theorem u5(h:av X t zs hs w0)(I:In.Inv N t)(hN:N≤900000){va:Option Addr}{vc:Nat}(l:List ByteArray)(hl:l.length≤1000000)(hsz: ∀ s∈l,s.size≤1000000000)(hva: ∀ k s,l[k]? =some s→ ∃ g,va=some ⟨g,0,none⟩∧w0.cell? ⟨g,k,none⟩=some (.string s))(oz:l.length≤vc):
  An 137 #[.pointer (some ⟨X.f,0,none⟩),.slice va l.length vc] w0 (.tuple #[.int .i64 (Fs.walkL t 1 l).1,.int .i64 (Fs.walkL t 1 l).2]):=by
 have hM:=St.start w0 []
 have c0:w0.cell? ⟨X.f,0,none⟩=some (.pointer (some ⟨X.x.g,0,none⟩)):=h.row 0 _ rfl
 have HF:=qh (fun (W:World) (hb:Below w0.heap.size w0 W) (id:Int) (s:ByteArray) (hs:s.size≤1000000000)=>Zv (h.tbl.below hb) I hN id s hs)
 have HV:=qh hva
 have HZ:=qh hsz
 obtain⟨R,hR⟩: ∃ R,Fs.walkL t 1 l=R:=⟨_,rfl⟩
 rw[hR]
 have HR:=qh hR
 clear h I hva hsz hR
 go_enter Tryz.func137,Tryz.ntmps137
 (refine qw ?_;intros;rename_i hM)
 go_loopw [6,7] (fun id i wr=> ∃ (k:Nat) (d:Int),k≤l.length∧i= .int .i64 k∧id= .int .i64 d∧Hid (Fs.walkL t d (l.drop k)=R)∧St w0 [] wr []) (fun _ i _=>l.length - (intOf i).toNat)
 case atStart=>exact⟨0,1,by omega,rfl,rfl,HR,hM⟩
 case round=>
  clear hM
  obtain⟨k,d,hk,rfl,rfl,HW,hM⟩:=hrel
  by_cases hlt:k<l.length
  ·obtain⟨s,hs⟩:=zK hlt
   have k1:(k:Int)<(l.length:Int):=by omega
   obtain⟨g,rfl,c1⟩:=HV.out k s hs
   have hd:l.drop k=s::l.drop (k+1):=by rw[lbIz hlt,(laHz.1 hs).2]
   have ee:=qh (fun (W:World) (hb:Below w0.heap.size w0 W)=>HF.out W hb d s (HZ.out s (laQz hs)))
   have hw:=HW.out
   rw[hd] at hw
   unfold Fs.walkL at hw
   generalize In.findE t d s=E at*
   generalize In.findN t d s=n' at*
   by_cases hE:E=0
   ·subst hE
    rw[if_pos rfl] at hw
    have kK:=qh hw
    clear hw HW hd hs
    (refine qw ?_;intros;rename_i hM)
    (refine qCB (ee.out _ hM.to_below) hM ?_;clear hM;intro w' hM)
    (refine qw ?_;intros;rename_i hM)
    (try simp only[Exit.then])
    (refine⟨?_,qio⟩;repeat(first|exact⟨⟨k+1,n',by omega,rfl,rfl,kK,hM⟩,rfl⟩|apply Exists.intro))
   ·have q1:(E != 0)=true:=bne_iff_ne.2 hE
    rw[if_neg hE] at hw
    have kK:=qh hw
    clear hw HW hd hs hE
    (refine qw ?_;intros;rename_i hM)
    (refine qCB (ee.out _ hM.to_below) hM ?_;clear hM;intro w' hM)
    (refine qw ?_;intros;rename_i hM)
    (refine qf ?_)
    exact⟨by rw[←kK.out];rfl,hM.to_below⟩
  ·have k0:¬((k:Int)<(l.length:Int)):=by omega
   obtain rfl:k=l.length:=by omega
   have hw:=HW.out
   rw[lcPz] at hw
   have kK:=qh (show(d,(0:Int))=R from hw)
   clear hlt hk hw HW
   (refine qw ?_;intros;rename_i hM)
   (refine qf ?_)
   exact⟨by rw[←kK.out];rfl,hM.to_below⟩
end
end
section
open Go.RowKit Go.Maps
namespace Hs
def many(hs:List ae)(o:Int):Nat:=hs.countP fun z=>z.owner==o
def look(hs:List ae)(o n:Int):Int:=
 match hs.find? fun z=>z.owner==o&&z.num==n with
 |some z=>z.id
 |none=>0
theorem j3(z:ae)(r:List ae)(o n:Int):look (z::r) o n=if(z.owner==o&&z.num==n)=true then z.id else look r o n:=by
 unfold look
 rw[lbGz]
 cases (z.owner==o&&z.num==n)<;> rfl
theorem j4{hs:List ae}{k:Nat}{z:ae}(h:hs[k]? =some z)(o:Int):many (hs.take (k+1)) o=many (hs.take k) o+(if z.owner==o then 1 else 0):=by
 unfold many
 rw[lbJz,h,Option.toList_some,List.countP_append,List.countP_singleton]
theorem lQ(hs:List ae)(o:Int):many hs o≤hs.length:=List.countP_le_length
end Hs
section
variable {w w' w0:World}{X:bQ}{t:TabD}{zs:List NodV}{hs:List ae}{N:Nat}
theorem Yb(h:av X t zs hs w0)(o:Int):An 139 #[.pointer (some ⟨X.f,0,none⟩),.int .i64 o] w0 (.int .i64 (Hs.many hs o:Nat)):=by
 have hM:=St.start w0 []
 have hrow:=h.row
 have hln:=h.hlen
 have HN:=qh h.hnd
 have HS:=qh h.hok
 obtain⟨va,vc,hv,hva⟩:=zf h.hok
 rw[hv] at hrow
 obtain⟨xf,xx,xh⟩:=X
 simp only at hrow HN HS hva ⊢
 have c1:w0.cell? ⟨xf,1,none⟩=some (.slice va hs.length vc):=hrow 1 _ rfl
 clear h hrow hv
 go_enter Tryz.func139,Tryz.ntmps139
 (refine qw ?_;intros;rename_i hM)
 go_loopw [5,6] (fun n i wr=> ∃ k:Nat,k≤hs.length∧i= .int .i64 k∧n= .int .i64 (Hs.many (hs.take k) o:Nat)∧St w0 [] wr []) (fun _ i _=>hs.length - (intOf i).toNat)
 case atStart=>exact⟨0,by omega,rfl,rfl,hM⟩
 case round=>
  clear hM
  obtain⟨k,hk,rfl,rfl,hM⟩:=hrel
  by_cases hlt:k<hs.length
  ·obtain⟨z,hz⟩:=zK hlt
   have k1:(k:Int)<(hs.length:Int):=by omega
   rcases xh with _|⟨g1,cap1⟩
   ·exact absurd HS.out.2 (by omega)
   obtain⟨rfl,rfl⟩:=hva g1 cap1 rfl
   have r1:=rf HN.out hz
   have c0:w0.cell? ⟨g1,k*3,none⟩=some (.int .i64 z.owner):=r1 0 _ rfl
   have hm:=Hs.j4 hz o
   have pf:=Hs.lQ (hs.take k) o
   rw[lbTz] at pf
   cases hq:z.owner==o with
   |true=>
    rw[hq,if_pos rfl] at hm
    have B7:=hq
    generalize Hs.many (hs.take k) o=m at*
    have iX:IntKind.i64.wrap ((m:Int)+1)=((m+1:Nat):Int):=by rw[Za _ (by omega)];omega
    have sx:=qh hm
    clear hm hz r1 pf hq
    (refine qw ?_;intros;rename_i hM)
    (try simp only[Exit.then])
    (refine⟨?_,qio⟩;repeat(first|exact⟨⟨k+1,by omega,rfl,by rw[sx.out];rfl,hM⟩,rfl⟩|apply Exists.intro))
   |false=>
    rw[hq,if_neg nofun,Nat.add_zero] at hm
    have B7:=hq
    have sx:=qh hm
    clear hm hz r1 pf hq
    generalize Hs.many (hs.take k) o=m at*
    (refine qw ?_;intros;rename_i hM)
    (try simp only[Exit.then])
    (refine⟨?_,qio⟩;repeat(first|exact⟨⟨k+1,by omega,rfl,by rw[sx.out];rfl,hM⟩,rfl⟩|apply Exists.intro))
  ·have k0:¬((k:Int)<(hs.length:Int)):=by omega
   obtain rfl:k=hs.length:=by omega
   rw[lbSz]
   clear hlt hk
   exact qwf
theorem ZX(h:av X t zs hs w0)(o n:Int):An 178 #[.pointer (some ⟨X.f,0,none⟩),.int .i64 o,.int .i64 n] w0 (.int .i64 (Hs.look hs o n)):=by
 have hM:=St.start w0 []
 have hrow:=h.row
 have hln:=h.hlen
 have HN:=qh h.hnd
 have HS:=qh h.hok
 obtain⟨va,vc,hv,hva⟩:=zf h.hok
 rw[hv] at hrow
 obtain⟨xf,xx,xh⟩:=X
 simp only at hrow HN HS hva ⊢
 have c1:w0.cell? ⟨xf,1,none⟩=some (.slice va hs.length vc):=hrow 1 _ rfl
 obtain⟨R,hR⟩: ∃ R,Hs.look hs o n=R:=⟨_,rfl⟩
 rw[hR]
 have HR:=qh hR
 clear h hrow hv hR
 go_enter Tryz.func178,Tryz.ntmps178
 (refine qw ?_;intros;rename_i hM)
 go_loopw [7] (fun i wr=> ∃ k:Nat,k≤hs.length∧i= .int .i64 k∧Hid (Hs.look (hs.drop k) o n=R)∧St w0 [] wr []) (fun i _=>hs.length - (intOf i).toNat)
 case atStart=>exact⟨0,by omega,rfl,HR,hM⟩
 case round=>
  clear hM
  obtain⟨k,hk,rfl,HF,hM⟩:=hrel
  by_cases hlt:k<hs.length
  ·obtain⟨z,hz⟩:=zK hlt
   have k1:(k:Int)<(hs.length:Int):=by omega
   rcases xh with _|⟨g1,cap1⟩
   ·exact absurd HS.out.2 (by omega)
   obtain⟨rfl,rfl⟩:=hva g1 cap1 rfl
   have r1:=rf HN.out hz
   have c0:w0.cell? ⟨g1,k*3,none⟩=some (.int .i64 z.owner):=r1 0 _ rfl
   have c2:w0.cell? ⟨g1,k*3+1,none⟩=some (.int .i64 z.num):=r1 1 _ rfl
   have c3:w0.cell? ⟨g1,k*3+2,none⟩=some (.int .i64 z.id):=r1 2 _ rfl
   have hd:hs.drop k=z::hs.drop (k+1):=by rw[lbIz hlt,(laHz.1 hz).2]
   have HF':=HF.out
   rw[hd,Hs.j3] at HF'
   cases iO:z.owner==o with
   |true=>
    cases mW:z.num==n with
    |true=>
     rw[iO,mW] at HF'
     have HFF:=qh (show z.id=R from HF')
     have p1:=iO
     have p2:=mW
     clear HF HF' hd hz r1 iO mW
     (refine qw ?_;intros;rename_i hM)
     (refine qf ?_)
     exact⟨by rw[←HFF.out];rfl,hM.to_below⟩
    |false=>
     rw[iO,mW] at HF'
     have HFF:=qh (show Hs.look (hs.drop (k+1)) o n=R from HF')
     have p1:=iO
     have p2:=mW
     clear HF HF' hd hz r1 iO mW
     (refine qw ?_;intros;rename_i hM)
     (try simp only[Exit.then])
     (refine⟨?_,qio⟩;repeat(first|exact⟨⟨k+1,by omega,rfl,HFF,hM⟩,rfl⟩|apply Exists.intro))
   |false=>
    rw[iO] at HF'
    have HFF:=qh (show Hs.look (hs.drop (k+1)) o n=R from HF')
    have p1:=iO
    clear HF HF' hd hz r1 iO
    (refine qw ?_;intros;rename_i hM)
    (try simp only[Exit.then])
    (refine⟨?_,qio⟩;repeat(first|exact⟨⟨k+1,by omega,rfl,HFF,hM⟩,rfl⟩|apply Exists.intro))
  ·have k0:¬((k:Int)<(hs.length:Int)):=by omega
   obtain rfl:k=hs.length:=by omega
   have HF':=HF.out
   rw[lcPz] at HF'
   have HFF:=qh (show 0=R from HF')
   clear hlt hk HF HF'
   (refine qw ?_;intros;rename_i hM)
   (refine qf ?_)
   exact⟨by rw[←HFF.out];rfl,hM.to_below⟩
end
end
section
open Go.RowKit Go.Maps
namespace Hs
def fx(hs:List ae)(o:Int):Nat→Int→Int
 |0,h=>h
 |n+1,h=>if 0<look hs o h then fx hs o n (h+1) else h
def free(hs:List ae)(o:Int):Int:=fx hs o 8 1
end Hs
section
variable {w w' w0 w1 w2:World}{X X':bQ}{t t':TabD}{zs zs':List NodV}{hs hs':List ae}{N:Nat}{F:List Nat}{L:List Ent}
structure bX (X:bQ) (t:TabD) (zs:List NodV) (hs:List ae) (X':bQ) (t':TabD) (zs':List NodV) (hs':List ae) (w w':World):Prop where
 f:X'.f=X.f
 g:X'.x.g=X.x.g
 is:av X' t' zs' hs' w'
 only:Only (eO X hs) w w'
 own: ∀ k∈ze (aX X'.h hs'),k∈eO X hs∨w.heap.size≤k
 grow:Grow w (ze (bw X t.quota (t.last+1) zs hs)) (ze (bw X' t'.quota (t'.last+1) zs' hs'))
def YG(X:bQ)(t:TabD)(zs:List NodV)(hs:List ae)(t':TabD)(hs':List ae)(w w':World):Prop:= ∃ X' zs',bX X t zs hs X' t' zs' hs' w w'
theorem rh{y:Ent}{q nx:Int}(hy:y∈bw X q nx zs hs)(h1:y.2.1=true):y.1=X.f∨y.1∈ze (aX X.h hs)∨y.1=X.x.g:=by
 unfold bw at hy
 rcases laBz.1 hy with rfl|hy
 ·exact .inl rfl
 ·rcases laAz.1 hy with hy|hy
  ·exact .inr (.inl (laLz hy))
  ·unfold rL at hy
   rcases laBz.1 hy with rfl|hy
   ·exact .inr (.inr rfl)
   ·obtain⟨z,-,rfl⟩:=laKz.1 hy
    cases h1
theorem Zx{k:Nat}:k∈eO X hs↔k=X.f∨k∈ze (aX X.h hs)∨k=X.x.g:=by
 unfold eO
 simp
theorem av.st(h:av X t zs hs w):St w (eO X hs) w (bw X t.quota (t.last+1) zs hs):=⟨Only.refl _ w,h.at_.has,h.at_.nd,fun y hy h1=> .inl (Zx.2 (rh hy h1))⟩
theorem bX.st(h:bX X t zs hs X' t' zs' hs' w w'):St w (eO X hs) w' (bw X' t'.quota (t'.last+1) zs' hs'):=⟨h.only,h.is.at_.has,h.is.at_.nd,fun y hy h1=>by
 rcases rh hy h1 with e|e|e
 ·exact .inl (Zx.2 (.inl (e.trans h.f)))
 ·exact h.own _ e
 ·exact .inl (Zx.2 (.inr (.inr (e.trans h.g))))⟩
theorem St.dC(hM:St w0 (eO X hs) w (bw X' t'.quota (t'.last+1) zs' hs'))(hf:X'.f=X.f)(hg:X'.x.g=X.x.g)(sl:yV X'.x.s zs')(names: ∀ z∈zs',SlOK z.2 z.1.names.length (entC z.1.names) 2)(len:zs'.length≤1000000)(nodes:zs'.map (·.1)=t'.nodes)(hok:ra X'.h hs')(hlen:hs'.length≤1000000)
  (gX:Grow w0 (ze (bw X t.quota (t.last+1) zs hs)) (ze (rL X'.x t'.quota (t'.last+1) zs'))):bX X t zs hs X' t' zs' hs' w0 w where
 f:=hf
 g:=hg
 is:=⟨hM.whole,sl,names,len,nodes,hok,hlen⟩
 only:=hM.only
 own:=fun k hk=>by
  obtain⟨y,hy,rfl⟩:=laKz.1 hk
  exact hM.own y (by unfold bw;exact .tail _ (laEz _ hy)) (zo _ _ _ _ y hy)
 grow:=fun k hk=>by
  have hG: ∀ k∈eO X hs,k∈ze (bw X t.quota (t.last+1) zs hs):=fun k hk=>by
   unfold bw
   rw[show ze (fw X hs.length::(aX X.h hs++rL X.x t.quota (t.last+1) zs))=X.f::ze (aX X.h hs++rL X.x t.quota (t.last+1) zs) from rfl,zF,yd]
   rcases Zx.1 hk with rfl|hk|rfl
   ·exact .head _
   ·exact .tail _ (laEz _ hk)
   ·exact .tail _ (laCz _ (.head _))
  unfold bw at hk
  rw[show ze (fw X' hs'.length::(aX X'.h hs' ++rL X'.x t'.quota (t'.last+1) zs'))=X'.f::ze (aX X'.h hs' ++rL X'.x t'.quota (t'.last+1) zs') from rfl,zF] at hk
  rcases laBz.1 hk with rfl|hk
  ·exact .inl (hG _ (Zx.2 (.inl hf)))
  ·rcases laAz.1 hk with hk|hk
   ·obtain⟨y,hy,rfl⟩:=laKz.1 hk
    rcases hM.own y (by unfold bw;exact .tail _ (laEz _ hy)) (zo _ _ _ _ y hy) with h1|h1
    ·exact .inl (hG _ h1)
    ·exact .inr h1
   ·exact gX k hk
theorem zP{va:Option Addr}{vc:Nat}{q nx:Int}(hv:slV X.h hs.length= .slice va hs.length vc):bw X q nx zs hs=(X.f,true,.cells [.pointer (some ⟨X.x.g,0,none⟩),.slice va hs.length vc] 76)::(aX X.h hs++rL X.x q nx zs):=by unfold bw fw;rw[hv]
theorem yg{q nx:Int}:ze (bw X q nx zs hs)=X.f::(ze (aX X.h hs)++ze (rL X.x q nx zs)):=by
 unfold bw
 rw[show ze (fw X hs.length::(aX X.h hs++rL X.x q nx zs))=X.f::ze (aX X.h hs++rL X.x q nx zs) from rfl,zF]
theorem ZF{w0:World}(h:av X t zs hs w0): ∃ xf g xs xh va vc,X=⟨xf,⟨g,xs⟩,xh⟩∧slV xh hs.length= .slice va hs.length vc∧St w0 (eO ⟨xf,⟨g,xs⟩,xh⟩ hs) w0 ((xf,true,Res.cells [.pointer (some ⟨g,0,none⟩),.slice va hs.length vc] 76)::(aX xh hs++rL ⟨g,xs⟩ t.quota (t.last+1) zs))∧
  Hid (∀ W:World,At ((xf,true,Res.cells [.pointer (some ⟨g,0,none⟩),.slice va hs.length vc] 76)::(aX xh hs++rL ⟨g,xs⟩ t.quota (t.last+1) zs)) W→av ⟨xf,⟨g,xs⟩,xh⟩ t zs hs W)∧Hid (∀ W:World,At (rL ⟨g,xs⟩ t.quota (t.last+1) zs) W→bR ⟨g,xs⟩ t zs W)∧
  Hid (∀ k,k∈ze (rL ⟨g,xs⟩ t.quota (t.last+1) zs)→k∈ze (bw ⟨xf,⟨g,xs⟩,xh⟩ t.quota (t.last+1) zs hs))∧Hid (∀ W:World,St w0 (eO ⟨xf,⟨g,xs⟩,xh⟩ hs) W ((xf,true,Res.cells [.pointer (some ⟨g,0,none⟩),.slice va hs.length vc] 76)::(aX xh hs++rL ⟨g,xs⟩ t.quota (t.last+1) zs))→YG ⟨xf,⟨g,xs⟩,xh⟩ t zs hs t hs w0 W):=by
 obtain⟨xf,⟨g,xs⟩,xh⟩:=X
 obtain⟨va,vc,hv,-⟩:=zf h.hok
 have hM:=h.st
 have e:=zP (X:=⟨xf,⟨g,xs⟩,xh⟩) (zs:=zs) (q:=t.quota) (nx:=t.last+1) hv
 rw[e] at hM
 have cM: ∀ k,k∈ze (rL ⟨g,xs⟩ t.quota (t.last+1) zs)→k∈ze (bw ⟨xf,⟨g,xs⟩,xh⟩ t.quota (t.last+1) zs hs):=fun k hk=>by rw[yg];exact .tail _ (laCz _ hk)
 exact⟨xf,g,xs,xh,va,vc,rfl,hv,hM,qh fun W hA=>⟨by rw[e];exact hA,h.sl,h.names,h.len,h.nodes,h.hok,h.hlen⟩,qh fun W hA=>⟨RRaw.of hA h.sl h.names h.len,h.nodes⟩,qh cM,
  qh fun W hW=>⟨⟨xf,⟨g,xs⟩,xh⟩,zs,St.dC (by rw[e];exact hW) rfl rfl h.sl h.names h.len h.nodes h.hok h.hlen (fun k hk=> .inl (cM k hk))⟩⟩
theorem Yg{g:Nat}{s:Option (Nat×Nat)}{q nx:Int}: ∀ k∈[g],∃ r,(k,true,r)∈rL ⟨g,s⟩ q nx zs:=fun k hk=>by
 rcases laGz.1 hk with rfl
 exact⟨_,by unfold rL rE;exact .head _⟩
theorem u6 (h : av X t zs hs w0) (I : In.Inv N t) (hN : N ≤ 900000) (hl : hs.length ≤ 900000) (o id : Int) :
    Calls Tryz.prog 144 #[.pointer (some ⟨X.f, 0, none⟩), .int .i64 o, .int .i64 id] w0 fun e w' =>
      (((In.hold t id).1 ≠ 0 ∧ e = .returned (.agg #[.int .i64 (In.hold t id).1, .int .i64 0, .string ⟨#[]⟩, .slice none 0 0]) ∧ YG X t zs hs (In.hold t id).2 hs w0 w') ∨
       ((In.hold t id).1 = 0 ∧ e = .returned (.agg #[.int .i64 0, .int .i64 (Hs.free hs o), .string ⟨#[]⟩, .slice none 0 0]) ∧ YG X t zs hs (In.hold t id).2 (hs ++ [⟨o, Hs.free hs o, id⟩]) w0 w')) := by
  obtain ⟨xf, ⟨g, xs⟩, xh⟩ := X
  obtain ⟨va, vc, hv, -⟩ := zf h.hok
  have hM := h.st
  rw [zP (X := ⟨xf, ⟨g, xs⟩, xh⟩) hv] at hM
  simp only at hM hv
  have HH := qh (fun (W : World) (hA : At (rL ⟨g, xs⟩ t.quota (t.last + 1) zs) W) => BG (⟨RRaw.of hA h.sl h.names h.len, h.nodes⟩ : bR ⟨g, xs⟩ t zs W) I hN id)
  have HK := qh h.hok
  have HV := qh hv
  have cM := qh (fun k (hk : k ∈ ze (rL ⟨g, xs⟩ t.quota (t.last + 1) zs)) => (show k ∈ ze (bw ⟨xf, ⟨g, xs⟩, xh⟩ t.quota (t.last + 1) zs hs) by rw [yg]; exact .tail _ (laCz _ hk)))
  clear h I hv
  generalize (In.hold t id).1 = c at *
  generalize (In.hold t id).2 = t2 at *
  go_enter Tryz.func144, Tryz.ntmps144
  (repeat (first | (refine qW ?_; intros; rename_i hM) | (refine qMk ?_; clear hM; intro w bk hM)))
  (refine qK3 (fun R hR => ?_))
  refine (HH.out _ (hM.part (Part.skip (Part.skip (Part.past Part.all))))).mono ?_
  rintro e w' ⟨rfl, s2, aF, aZ, hto⟩; refine hR.out _ _ ?_; clear hR R
  have ff := qh (Grow.trans (fun k hk => .inl (cM.out k hk)) hto.grow hM.only.size : Grow w0 (ze (bw ⟨xf, ⟨g, xs⟩, xh⟩ t.quota (t.last + 1) zs hs)) _)
  replace hM := hM.az (Swap.skip (Swap.skip (Swap.past Swap.all))) hto.st Yg hto.grow
  have HZ := qh (And.intro hto.raw.sl (And.intro hto.raw.names (And.intro hto.raw.len aZ)))
  clear hto aZ HH cM
  (refine qq ?_)
  (repeat (first | (refine qW ?_; intros; rename_i hM) | (refine qMk ?_; clear hM; intro w bk hM)))
  by_cases hc : c = 0
  · subst hc
    have gq := qh (fun (W : World) (n : Int) (hA : At ((xf, true, Res.cells [.pointer (some ⟨g, 0, none⟩), .slice va hs.length vc] 76) :: (aX xh hs ++ rL ⟨g, s2⟩ t2.quota (t2.last + 1) aF)) W) => ZX (⟨by rw [zP (X := ⟨xf, ⟨g, s2⟩, xh⟩) HV.out]; exact hA, HZ.out.1, HZ.out.2.1, HZ.out.2.2.1, HZ.out.2.2.2, HK.out, by omega⟩ : av ⟨xf, ⟨g, s2⟩, xh⟩ t2 aF hs W) o n)
    (repeat (first | (refine qW ?_; intros; rename_i hM) | (refine qMk ?_; clear hM; intro w bk hM)))
    go_loopw [8, 9] (fun h i wr => ∃ k : Nat, k ≤ 8 ∧ i = .int .i64 k ∧ h = .int .i64 ((k : Int) + 1) ∧ Hid (Hs.fx hs o (8 - k) ((k : Int) + 1) = Hs.free hs o) ∧ St w0 (eO ⟨xf, ⟨g, xs⟩, xh⟩ hs) wr ((bk, true, Res.cells [.int .i64 0, .int .i64 0, .string ⟨#[]⟩, .slice none 0 0] 31) :: (xf, true, Res.cells [.pointer (some ⟨g, 0, none⟩), .slice va hs.length vc] 76) :: (aX xh hs ++ rL ⟨g, s2⟩ t2.quota (t2.last + 1) aF))) (fun _ i _ => 8 - (intOf i).toNat)
    case atStart => exact ⟨0, by omega, rfl, rfl, qh rfl, hM⟩
    case round =>
      clear hM
      obtain ⟨k, hk, rfl, rfl, HF, hM⟩ := hrel
      by_cases hlt : k < 8
      · have k1 : (k : Int) < 8 := by omega
        have iX : IntKind.i64.wrap ((k : Int) + 1 + 1) = ((k + 1 : Nat) : Int) + 1 := by rw [Za _ (by omega)]; omega
        have ee := HF.out
        rw [show 8 - k = (8 - (k + 1)) + 1 by omega] at ee
        unfold Hs.fx at ee
        have u7 := qh (fun W => gq.out W ((k : Int) + 1))
        by_cases hv0 : 0 < Hs.look hs o ((k : Int) + 1)
        · rw [if_pos hv0] at ee
          generalize Hs.look hs o ((k : Int) + 1) = v at *
          have HF2 := qh (show Hs.fx hs o (8 - (k + 1)) (((k + 1 : Nat) : Int) + 1) = Hs.free hs o by rw [← ee]; congr 1)
          clear HF ee
          (repeat (first | (refine qW ?_; intros; rename_i hM) | (refine qMk ?_; clear hM; intro w bk hM)))
          (refine qCB (u7.out _ (hM.part (Part.skip Part.all))) hM ?_; clear hM; intro w' hM)
          (repeat (first | (refine qW ?_; intros; rename_i hM) | (refine qMk ?_; clear hM; intro w bk hM)))
          (try simp only [Exit.then])
          (refine ⟨?_, qio⟩; repeat (first | exact ⟨⟨k + 1, by omega, rfl, rfl, HF2, hM⟩, rfl⟩ | apply Exists.intro))
        · rw [if_neg hv0] at ee
          generalize Hs.look hs o ((k : Int) + 1) = v at *
          have kv : decide (0 < v) = false := decide_eq_false hv0
          have mX := qh ee
          clear HF ee hv0
          (repeat (first | (refine qW ?_; intros; rename_i hM) | (refine qMk ?_; clear hM; intro w bk hM)))
          (refine qCB (u7.out _ (hM.part (Part.skip Part.all))) hM ?_; clear hM; intro w' hM)
          (repeat (first | (refine qW ?_; intros; rename_i hM) | (refine qMk ?_; clear hM; intro w bk hM)))
          rw [← HV.out]
          refine St.append (s := xh) (n := hs.length) (xs := hs.flatMap ae.cells) rfl hM rfl rfl rfl rfl rfl (by kernel_rfl) qsf HK.out rfl (hM.news qm) rfl (by rw [zj]; omega) (by omega) (fun h => by cases h) ?_
          clear hM; intro w s3 hM aL _
          have e1 : hs.flatMap ae.cells ++ [.int .i64 o, .int .i64 ((k : Int) + 1), .int .i64 id] = (hs ++ [(⟨o, Hs.free hs o, id⟩ : ae)]).flatMap ae.cells := by rw [laWz, lbUz, ← mX.out]; rfl
          have e2 : hs.length + 1 = (hs ++ [(⟨o, Hs.free hs o, id⟩ : ae)]).length := by simp
          simp only [Res.known] at hM aL
          rw [e1] at hM aL
          rw [e2] at aL
          rw [e2]
          have HK3 := qh aL
          have mY := qh (show (hs ++ [(⟨o, Hs.free hs o, id⟩ : ae)]).length ≤ 1000000 by rw [← e2]; omega)
          clear e1 e2 aL
          obtain ⟨ub, ud, dv, -⟩ := zf HK3.out
          rw [dv]
          (refine qq ?_)
          (repeat (first | (refine qW ?_; intros; rename_i hM) | (refine qMk ?_; clear hM; intro w bk hM)))
          (refine qf ?_)
          refine .inr ⟨trivial, by rw [← mX.out]; rfl, ⟨xf, ⟨g, s2⟩, s3⟩, aF, St.dC ?_ rfl rfl HZ.out.1 HZ.out.2.1 HZ.out.2.2.1 HZ.out.2.2.2 HK3.out mY.out ff.out⟩
          rw [zP (X := ⟨xf, ⟨g, s2⟩, s3⟩) dv]
          exact hM.forget.forget
      · have k0 : ¬ ((k : Int) < 8) := by omega
        obtain rfl : k = 8 := by omega
        have mX := qh (show ((8 : Nat) : Int) + 1 = Hs.free hs o from HF.out)
        clear HF hlt hk
        (repeat (first | (refine qW ?_; intros; rename_i hM) | (refine qMk ?_; clear hM; intro w bk hM)))
        rw [← HV.out]
        refine St.append (s := xh) (n := hs.length) (xs := hs.flatMap ae.cells) rfl hM rfl rfl rfl rfl rfl (by kernel_rfl) qsf HK.out rfl (hM.news qm) rfl (by rw [zj]; omega) (by omega) (fun h => by cases h) ?_
        clear hM; intro w s3 hM aL _
        have e1 : hs.flatMap ae.cells ++ [.int .i64 o, .int .i64 9, .int .i64 id] = (hs ++ [(⟨o, Hs.free hs o, id⟩ : ae)]).flatMap ae.cells := by rw [laWz, lbUz, ← mX.out]; rfl
        have e2 : hs.length + 1 = (hs ++ [(⟨o, Hs.free hs o, id⟩ : ae)]).length := by simp
        simp only [Res.known] at hM aL
        rw [e1] at hM aL
        rw [e2] at aL
        rw [e2]
        have HK3 := qh aL
        have mY := qh (show (hs ++ [(⟨o, Hs.free hs o, id⟩ : ae)]).length ≤ 1000000 by rw [← e2]; omega)
        clear e1 e2 aL
        obtain ⟨ub, ud, dv, -⟩ := zf HK3.out
        rw [dv]
        (refine qq ?_)
        (repeat (first | (refine qW ?_; intros; rename_i hM) | (refine qMk ?_; clear hM; intro w bk hM)))
        (refine qf ?_)
        refine .inr ⟨trivial, by rw [← mX.out]; rfl, ⟨xf, ⟨g, s2⟩, s3⟩, aF, St.dC ?_ rfl rfl HZ.out.1 HZ.out.2.1 HZ.out.2.2.1 HZ.out.2.2.2 HK3.out mY.out ff.out⟩
        rw [zP (X := ⟨xf, ⟨g, s2⟩, s3⟩) dv]
        exact hM.forget.forget
  · have q1 : (c != 0) = true := bne_iff_ne.2 hc
    have HC := qh hc
    clear hc
    rw [q1]
    (repeat (first | (refine qW ?_; intros; rename_i hM) | (refine qMk ?_; clear hM; intro w bk hM)))
    (refine qf ?_)
    refine .inl ⟨HC.out, rfl, ⟨xf, ⟨g, s2⟩, xh⟩, aF, St.dC ?_ rfl rfl HZ.out.1 HZ.out.2.1 HZ.out.2.2.1 HZ.out.2.2.2 HK.out (by omega) ff.out⟩
    rw [zP (X := ⟨xf, ⟨g, s2⟩, xh⟩) HV.out]
    exact hM.forget
end
end
section
open Go.RowKit Go.Maps
namespace Hs
def hit(o n:Int)(z:ae):Bool:=z.owner==o&&(n==0||z.num==n)
def rest(hs:List ae)(o n:Int):List ae:=hs.filter fun z=> !hit o n z
def bx(t:TabD)(hs:List ae)(o n:Int):TabD:=(hs.filter (hit o n)).foldl (fun t z=>(In.drop t z.id).2) t
theorem j5{hs:List ae}{k:Nat}{z:ae}(h:hs[k]? =some z)(o n:Int):rest (hs.take (k+1)) o n=rest (hs.take k) o n++(if hit o n z then [] else [z]):=by
 unfold rest
 rw[lbJz,h,Option.toList_some,ldEz]
 cases hh:hit o n z<;> simp[hh]
theorem i_{hs:List ae}{k:Nat}{z:ae}(h:hs[k]? =some z)(t:TabD)(o n:Int):bx t (hs.take (k+1)) o n=if hit o n z then(In.drop (bx t (hs.take k) o n) z.id).2 else bx t (hs.take k) o n:=by
 unfold bx
 rw[lbJz,h,Option.toList_some,ldEz,ldIz]
 cases hh:hit o n z<;> simp[hh]
theorem hJ(hs:List ae)(o n:Int):(rest hs o n).length≤hs.length:=lbYz _ _
end Hs
theorem St.pg{w0 w:World}{F F':List Nat}{L:List Ent}(h:St w0 F w L)(hF: ∀ x∈F,x∈F'):St w0 F' w L:=⟨h.only.mono hF,h.holds,h.nd,fun y hy h1=>(h.own y hy h1).imp (hF _) id⟩
section
variable {w w' w0 w1 w2:World}{X X':bQ}{t t':TabD}{zs zs':List NodV}{hs hs':List ae}{N:Nat}{F:List Nat}{L:List Ent}
theorem u9(h:av X t zs hs w0)(I:In.Inv N t)(hN:N≤900000)(o n:Int):
  Calls Tryz.prog 134 #[.pointer (some ⟨X.f,0,none⟩),.int .i64 o,.int .i64 n] w0 fun e w'=>e= .returned (.tuple #[])∧YG X t zs hs (Hs.bx t hs o n) (Hs.rest hs o n) w0 w':=by
 obtain⟨xf,⟨g,xs⟩,xh⟩:=X
 obtain⟨va,vc,hv,hva⟩:=zf h.hok
 have hA:=h.at_
 rw[zP (X:=⟨xf,⟨g,xs⟩,xh⟩) hv] at hA
 simp only at hA hv hva
 have hM:St w0 [xf,g] w0 ((xf,true,.cells [.pointer (some ⟨g,0,none⟩),.slice va hs.length vc] 76)::rL ⟨g,xs⟩ t.quota (t.last+1) zs):=by
  have hB:=hA.sub (M:=(xf,true,.cells [.pointer (some ⟨g,0,none⟩),.slice va hs.length vc] 76)::rL ⟨g,xs⟩ t.quota (t.last+1) zs) (List.Sublist.cons_cons _ (laFz _ _))
  refine⟨Only.refl _ w0,hB.has,hB.nd,fun y hy h1=> .inl ?_⟩
  rcases laBz.1 hy with rfl|hy
  ·exact .head _
  ·unfold rL at hy
   rcases laBz.1 hy with rfl|hy
   ·exact .tail _ (.head _)
   ·obtain⟨z,-,rfl⟩:=laKz.1 hy
    cases h1
 have B8:=qh (fun (g1 cap1:Nat) (e:xh=some (g1,cap1))=>(show g1∉[xf,g] from fun hm=>by
  subst e
  have hnd:=hA.nd
  rw[show ze ((xf,true,Res.cells [.pointer (some ⟨g,0,none⟩),.slice va hs.length vc] 76)::(aX (some (g1,cap1)) hs++rL ⟨g,xs⟩ t.quota (t.last+1) zs))=xf::g1::ze (rL ⟨g,xs⟩ t.quota (t.last+1) zs) from rfl,yd] at hnd
  simp only[laTz,laBz] at hnd
  simp only[laBz,lbRz,or_false] at hm
  rcases hm with e|e
  ·exact hnd.1 (.inl e.symm)
  ·exact hnd.2.1 (.inl e)))
 have HN:=qh h.hnd
 have HS:=qh h.hok
 have hln:=h.hlen
 have u_:=qh (And.intro h.sl (And.intro h.names (And.intro h.len h.nodes)))
 have mZ:=qh I
 have cM:=qh (fun k (hk:k∈ze (rL ⟨g,xs⟩ t.quota (t.last+1) zs))=>(show k∈ze (bw ⟨xf,⟨g,xs⟩,xh⟩ t.quota (t.last+1) zs hs) by rw[yg];exact .tail _ (laCz _ hk)))
 clear h I hA hv
 go_enter Tryz.func134,Tryz.ntmps134
 (refine qw ?_;intros;rename_i hM)
 go_loopw [6,7] (fun v i wr=> ∃ (k:Nat) (t':TabD) (s2 s':Option (Nat×Nat)) (aF:List NodV) (ys:List ae),k≤hs.length∧i= .int .i64 k∧v=slV s' ys.length∧ys.length≤k∧Hid (t'=Hs.bx t (hs.take k) o n∧In.Inv N t')∧Hid (ys=Hs.rest (hs.take k) o n)∧Hid (yV s2 aF∧(∀ z∈aF,SlOK z.2 z.1.names.length (entC z.1.names) 2)∧aF.length≤1000000∧aF.map (·.1)=t'.nodes)∧Hid (Grow w0 (ze (rL ⟨g,xs⟩ t.quota (t.last+1) zs)) (ze (rL ⟨g,s2⟩ t'.quota (t'.last+1) aF)))∧ra s' ys∧St w0 [xf,g] wr ((xf,true,Res.cells [.pointer (some ⟨g,0,none⟩),.slice va hs.length vc] 76)::(aX s' ys++rL ⟨g,s2⟩ t'.quota (t'.last+1) aF))) (fun _ i _=>hs.length - (intOf i).toNat)
 case atStart=>exact⟨0,t,xs,none,zs,[],by omega,rfl,rfl,Nat.le_refl _,qh ⟨rfl,mZ.out⟩,qh rfl,u_,qh (Grow.refl _ _),⟨rfl,rfl⟩,hM⟩
 case round=>
  clear hM mZ u_
  obtain⟨k,t',s2,s',aF,ys,hk,rfl,rfl,hyk,HT,HY,HZ,HG,hok,hM⟩:=hrel
  have HOK:=qh hok
  clear hok
  obtain⟨ua,uc,hu,-⟩:=zf HOK.out
  by_cases hlt:k<hs.length
  ·obtain⟨z,hz⟩:=zK hlt
   have k1:(k:Int)<(hs.length:Int):=by omega
   rcases xh with _|⟨g1,cap1⟩
   ·exact absurd HS.out.2 (by omega)
   obtain⟨rfl,rfl⟩:=hva g1 cap1 rfl
   have hgn:g1∉[xf,g]:=B8.out g1 _ rfl
   have r1:=rf HN.out hz
   have c0:w0.cell? ⟨g1,k*3,none⟩=some (.int .i64 z.owner):=r1 0 _ rfl
   have c2:w0.cell? ⟨g1,k*3+1,none⟩=some (.int .i64 z.num):=r1 1 _ rfl
   have c3:w0.cell? ⟨g1,k*3+2,none⟩=some (.int .i64 z.id):=r1 2 _ rfl
   have mw:=qh (Hs.j5 hz o n)
   have my:=qh (Hs.i_ hz t o n)
   have HD:=qh (fun (W:World) (hA:At (rL ⟨g,s2⟩ t'.quota (t'.last+1) aF) W)=>BI (⟨RRaw.of hA HZ.out.1 HZ.out.2.1 HZ.out.2.2.1,HZ.out.2.2.2⟩:bR ⟨g,s2⟩ t' aF W) HT.out.2 hN z.id)
   unfold ae.cells at r1
   clear hz
   rw[hu]
   cases q1:z.owner==o with
   |true=>
    cases q2:n==0 with
    |true=>
     have hh:Hs.hit o n z=true:=by unfold Hs.hit;rw[q1,q2];rfl
     have ja:=my.out
     have hZ:=mw.out
     rw[hh,if_pos rfl] at ja hZ
     rw[laYz] at hZ
     have HT2:=qh (show(In.drop t' z.id).2=Hs.bx t (hs.take (k+1)) o n∧In.Inv N (In.drop t' z.id).2 from ⟨by rw[ja,←HT.out.1],In.inv_drop HT.out.2 z.id⟩)
     have HY2:=qh (show ys=Hs.rest (hs.take (k+1)) o n by rw[hZ];exact HY.out)
     clear ja hZ my mw hh
     (repeat(first|(refine qW0 ?_;clear hM;intros;rename_i hM)|((refine qMk ?_);clear hM;intro w bk hM)|((first|refine qD (id:=5) hM (Sub.take Sub.nil) [3,7] [(0,0),(1,0),(2,0),(3,1),(4,0),(5,0),(6,0),(7,1),(8,2),(9,2),(10,2),(11,2),(12,2)] ?_);clear hM;intro w hM Kr hKr)))
     (refine qK (fun R hR=> ?_))
     refine(HD.out _ (hM.part (Part.skip (Part.past Part.all)))).mono ?_
     rintro e w' ⟨rfl,s3,fW,kL,hto⟩
     have kM:=qh (Grow.trans HG.out hto.grow hM.only.size)
     replace hM:=hM.az (Swap.skip (Swap.past Swap.all)) hto.st Yg hto.grow
     refine hR.out _ _ (fun _=>hM.held (fun x hx=>by rcases laGz.1 hx with rfl;exact .head _)) ?_;clear hR R
     have sy:=qh (And.intro hto.raw.sl (And.intro hto.raw.names (And.intro hto.raw.len kL)))
     clear hto kL HD
     (refine qq ?_)
     (refine qw ?_;intros;rename_i hM)
     (try simp only[Exit.then])
     rw[←hu]
     (refine⟨?_,qio⟩;repeat(first|exact⟨⟨k+1,_,s3,s',fW,ys,by omega,rfl,rfl,by omega,HT2,HY2,sy,kM,HOK.out,hM⟩,rfl⟩|apply Exists.intro))
    |false=>
     cases q3:z.num==n with
     |true=>
      have hh:Hs.hit o n z=true:=by unfold Hs.hit;rw[q1,q2,q3];rfl
      have ja:=my.out
      have hZ:=mw.out
      rw[hh,if_pos rfl] at ja hZ
      rw[laYz] at hZ
      have HT2:=qh (show(In.drop t' z.id).2=Hs.bx t (hs.take (k+1)) o n∧In.Inv N (In.drop t' z.id).2 from ⟨by rw[ja,←HT.out.1],In.inv_drop HT.out.2 z.id⟩)
      have HY2:=qh (show ys=Hs.rest (hs.take (k+1)) o n by rw[hZ];exact HY.out)
      clear ja hZ my mw hh
      (repeat(first|(refine qW0 ?_;clear hM;intros;rename_i hM)|((refine qMk ?_);clear hM;intro w bk hM)|((first|refine qD (id:=5) hM (Sub.take Sub.nil) [3,7] [(0,0),(1,0),(2,0),(3,1),(4,0),(5,0),(6,0),(7,1),(8,2),(9,2),(10,2),(11,2),(12,2)] ?_);clear hM;intro w hM Kr hKr)))
      (refine qK (fun R hR=> ?_))
      refine(HD.out _ (hM.part (Part.skip (Part.past Part.all)))).mono ?_
      rintro e w' ⟨rfl,s3,fW,kL,hto⟩
      have kM:=qh (Grow.trans HG.out hto.grow hM.only.size)
      replace hM:=hM.az (Swap.skip (Swap.past Swap.all)) hto.st Yg hto.grow
      refine hR.out _ _ (fun _=>hM.held (fun x hx=>by rcases laGz.1 hx with rfl;exact .head _)) ?_;clear hR R
      have sy:=qh (And.intro hto.raw.sl (And.intro hto.raw.names (And.intro hto.raw.len kL)))
      clear hto kL HD
      (refine qq ?_)
      (refine qw ?_;intros;rename_i hM)
      (try simp only[Exit.then])
      rw[←hu]
      (refine⟨?_,qio⟩;repeat(first|exact⟨⟨k+1,_,s3,s',fW,ys,by omega,rfl,rfl,by omega,HT2,HY2,sy,kM,HOK.out,hM⟩,rfl⟩|apply Exists.intro))
     |false=>
      have hh:Hs.hit o n z=false:=by unfold Hs.hit;rw[q1,q2,q3];rfl
      have ja:=my.out
      have hZ:=mw.out
      rw[hh,if_neg nofun] at ja hZ
      have HT2:=qh (show t'=Hs.bx t (hs.take (k+1)) o n∧In.Inv N t' from ⟨by rw[ja,←HT.out.1],HT.out.2⟩)
      have HY2:=qh (show ys++[z]=Hs.rest (hs.take (k+1)) o n by rw[hZ,←HY.out])
      clear ja hZ my mw hh HD
      (refine qw ?_;intros;rename_i hM)
      rw[←hu]
      refine St.append (s:=s') (n:=ys.length) (xs:=ys.flatMap ae.cells) rfl hM rfl rfl rfl rfl rfl (by kernel_rfl) qsf HOK.out rfl (hM.news qm) rfl (by rw[zj];omega) (by omega) (fun h=>by cases h) ?_
      clear hM;intro w s3 hM aL _
      have e1:ys.flatMap ae.cells++[.int .i64 z.owner,.int .i64 z.num,.int .i64 z.id]=(ys++[z]).flatMap ae.cells:=by rw[laWz,lbUz];rfl
      have e2:ys.length+1=(ys++[z]).length:=by simp
      simp only[Res.known] at hM aL
      rw[e1] at hM aL
      rw[e2] at aL
      rw[e2]
      have HK3:=qh aL
      clear e1 e2 aL HOK
      have hyl:(ys++[z]).length≤k+1:=by rw[laNz,lbQz];omega
      obtain⟨ub,ud,dv,-⟩:=zf HK3.out
      rw[dv]
      (refine qq ?_)
      (refine qw ?_;intros;rename_i hM)
      replace hM:=hM.forget
      (try simp only[Exit.then])
      rw[←dv]
      (refine⟨?_,qio⟩;repeat(first|exact⟨⟨k+1,t',s2,s3,aF,ys++[z],by omega,rfl,rfl,hyl,HT2,HY2,HZ,HG,HK3.out,hM⟩,rfl⟩|apply Exists.intro))
   |false=>
    have hh:Hs.hit o n z=false:=by unfold Hs.hit;rw[q1];rfl
    have ja:=my.out
    have hZ:=mw.out
    rw[hh,if_neg nofun] at ja hZ
    have HT2:=qh (show t'=Hs.bx t (hs.take (k+1)) o n∧In.Inv N t' from ⟨by rw[ja,←HT.out.1],HT.out.2⟩)
    have HY2:=qh (show ys++[z]=Hs.rest (hs.take (k+1)) o n by rw[hZ,←HY.out])
    clear ja hZ my mw hh HD
    (refine qw ?_;intros;rename_i hM)
    rw[←hu]
    refine St.append (s:=s') (n:=ys.length) (xs:=ys.flatMap ae.cells) rfl hM rfl rfl rfl rfl rfl (by kernel_rfl) qsf HOK.out rfl (hM.news qm) rfl (by rw[zj];omega) (by omega) (fun h=>by cases h) ?_
    clear hM;intro w s3 hM aL _
    have e1:ys.flatMap ae.cells++[.int .i64 z.owner,.int .i64 z.num,.int .i64 z.id]=(ys++[z]).flatMap ae.cells:=by rw[laWz,lbUz];rfl
    have e2:ys.length+1=(ys++[z]).length:=by simp
    simp only[Res.known] at hM aL
    rw[e1] at hM aL
    rw[e2] at aL
    rw[e2]
    have HK3:=qh aL
    clear e1 e2 aL HOK
    have hyl:(ys++[z]).length≤k+1:=by rw[laNz,lbQz];omega
    obtain⟨ub,ud,dv,-⟩:=zf HK3.out
    rw[dv]
    (refine qq ?_)
    (refine qw ?_;intros;rename_i hM)
    replace hM:=hM.forget
    (try simp only[Exit.then])
    rw[←dv]
    (refine⟨?_,qio⟩;repeat(first|exact⟨⟨k+1,t',s2,s3,aF,ys++[z],by omega,rfl,rfl,hyl,HT2,HY2,HZ,HG,HK3.out,hM⟩,rfl⟩|apply Exists.intro))
  ·have k0:¬((k:Int)<(hs.length:Int)):=by omega
   obtain rfl:k=hs.length:=by omega
   have hT:=HT.out.1
   have hY:=HY.out
   rw[lbSz] at hT hY
   have B9:=qh (show ys.length≤1000000 by omega)
   have B_:=qh hT
   have sA:=qh hY
   clear hlt hk hT hY
   rw[hu]
   (refine qw ?_;intros;rename_i hM)
   (refine qf ?_)
   rw[←B_.out,←sA.out]
   refine⟨rfl,⟨xf,⟨g,s2⟩,s'⟩,aF,St.dC ?_ rfl rfl HZ.out.1 HZ.out.2.1 HZ.out.2.2.1 HZ.out.2.2.2 HOK.out B9.out (Grow.trans (fun k hk=> .inl (cM.out k hk)) HG.out (Nat.le_refl _))⟩
   rw[zP (X:=⟨xf,⟨g,s2⟩,s'⟩) hu]
   refine St.pg hM (fun k hk=> ?_)
   rcases laBz.1 hk with rfl|hk
   ·exact Zx.2 (.inl rfl)
   ·rcases laGz.1 hk with rfl
    exact Zx.2 (.inr (.inr rfl))
theorem Ca(h:av X t zs hs w0)(I:In.Inv N t)(hN:N≤900000)(o:Int):
  Calls Tryz.prog 86 #[.pointer (some ⟨X.f,0,none⟩),.int .i64 o] w0 fun e w'=>e= .returned (.tuple #[])∧YG X t zs hs (Hs.bx t hs o 0) (Hs.rest hs o 0) w0 w':=by
 have hM:=St.start w0 []
 have HC:=qh (u9 h I hN o 0)
 clear h I
 go_enter Tryz.func86,Tryz.ntmps86
 (refine qw ?_;intros;rename_i hM)
 (refine qK3 (fun R hR=> ?_))
 refine HC.out.mono ?_
 rintro e w' ⟨rfl,hd⟩;refine hR.out _ _ ?_;clear hR R
 have HD:=qh hd
 clear hd hM
 have hM:=St.start w' []
 (refine qq ?_)
 (refine qw ?_;intros;rename_i hM)
 (refine qf ?_)
 obtain⟨X',zs',hd⟩:=HD.out
 exact⟨rfl,X',zs',hd.f,hd.g,hd.is.below hM.to_below,hd.only.below (hM.to_below.mono hd.only.size),hd.own,hd.grow⟩
end
end
section
open Go.RowKit Go.Maps
section
variable {w w' w0 w1 w2:World}{X X':bQ}{t t':TabD}{zs zs':List NodV}{hs hs':List ae}{N:Nat}{F:List Nat}{L:List Ent}{x:RX}{q nx:Int}
theorem Cb{g cap:Nat}(hA:At (nodL (some (g,cap)) zs) w){j:Nat}{u:Value}(h:(zs.flatMap NodV.cells)[j]? =some u):w.cell? ⟨g,j,none⟩=some u:=
 Res.cell (hA.has (g,true,.pre (zs.flatMap NodV.cells) 124 (cap*6)) (.head _)) h
theorem Cc{g cap:Nat}(hA:At (aX (some (g,cap)) hs) w){j:Nat}{u:Value}(h:(hs.flatMap ae.cells)[j]? =some u):w.cell? ⟨g,j,none⟩=some u:=
 Res.cell (hA.has (g,true,.pre (hs.flatMap ae.cells) 148 (cap*3)) (.head _)) h
theorem ve: ∀ zs:List NodV,(zs.flatMap NodV.cells).all (·.oneCell')=true
 |[]=>rfl
 |z::r=>by
  rw[laOz,ldOz,ve r]
  rcases z with ⟨n,_|⟨g,c⟩⟩<;> rfl
theorem vf: ∀ hs:List ae,(hs.flatMap ae.cells).all (·.oneCell')=true
 |[]=>rfl
 |z::r=>by
  rw[laOz,ldOz,vf r]
  rfl
theorem Cd(h:RRaw x q nx zs w0):Calls Tryz.prog 133 #[.pointer (some ⟨x.g,0,none⟩)] w0 fun e w'=> ∃ g' s',e= .returned (.pointer (some ⟨g',0,none⟩))∧yV s' zs∧St w0 [] w' (rE ⟨g',s'⟩ q nx zs.length::nodL s' zs):=by
 have hM:=St.start w0 []
 have hrow:=h.row
 have hln:=h.len
 obtain⟨va,vc,hv,hva⟩:=zf h.sl
 obtain⟨xg,xs⟩:=x
 have HC:=qh (show va=none→zs.length=0∧vc=0 from fun e=>by
  rcases xs with _|⟨g1,cap1⟩
  ·have h1:zs.length=0:=h.sl.2
   unfold slV at hv
   injection hv with _ _ h3
   exact⟨h1,h3.symm⟩
  ·obtain⟨h1,-⟩:=hva g1 cap1 rfl
   rw[h1] at e
   cases e)
 have HD:=qh (show ∀ ad,va=some ad→ ∃ g,ad=⟨g,0,none⟩∧ ∀ j u,(zs.flatMap NodV.cells)[j]? =some u→w0.cell? ⟨g,j,none⟩=some u from fun ad e=>by
  rcases xs with _|⟨g1,cap1⟩
  ·unfold slV at hv
   injection hv with h3
   rw[←h3] at e
   cases e
  ·obtain⟨h1,-⟩:=hva g1 cap1 rfl
   rw[h1] at e
   cases e
   exact⟨g1,rfl,fun j u hj=>Cb h.nod hj⟩)
 simp only at hrow hv ⊢
 rw[hv] at hrow
 have c0:w0.cell? ⟨xg,0,none⟩=some (.int .i64 q):=hrow 0 _ rfl
 have c1:w0.cell? ⟨xg,1,none⟩=some (.int .i64 nx):=hrow 1 _ rfl
 have c2:w0.cell? ⟨xg,2,none⟩=some (.slice va zs.length vc):=hrow 2 _ rfl
 clear h hrow hv hva
 go_enter Tryz.func133,Tryz.ntmps133
 (repeat(first|(refine qW ?_;intros;rename_i hM)|(refine qMk ?_;clear hM;intro w bk hM)))
 change St w0 [] _ (slL none [] 124 6) at hM
 refine St.appendAny (s:=none) (n:=0) (xs:=[]) (news:=zs.flatMap NodV.cells) rfl hM rfl rfl rfl rfl rfl (by kernel_rfl) (fun s'=>Swap.all) ⟨rfl,rfl⟩ (fun e=>HC.out e) (zcT zs) (fun ad e j u hj=>by
  obtain⟨g,rfl,hc⟩:=HD.out ad e
  rw[ZT,Nat.zero_add]
  exact hM.old (hc j u hj)) (ve zs) (by rw[zj];omega) (by omega) (fun _=> .inr rfl) ?_
 clear hM;intro w s1 hM hk1 _ _
 simp only[laJz,Nat.zero_add] at hM hk1 ⊢
 have HK1:=qh hk1
 obtain⟨ua,uc,hu,-⟩:=zf hk1
 clear hk1
 rw[hu]
 (refine qq ?_)
 (repeat(first|(refine qW ?_;intros;rename_i hM)|(refine qMk ?_;clear hM;intro w bk hM)))
 (refine qf ?_)
 refine⟨bk,s1,rfl,HK1.out, ?_⟩
 unfold rE
 simp only
 rw[hu]
 exact hM
theorem Ce(h:av X t zs hs w0):Calls Tryz.prog 85 #[.pointer (some ⟨X.f,0,none⟩)] w0 fun e w'=> ∃ X',e= .returned (.pointer (some ⟨X'.f,0,none⟩))∧ra X'.h hs∧yV X'.x.s zs∧St w0 [] w' (fw X' hs.length::(rE X'.x t.quota (t.last+1) zs.length::nodL X'.x.s zs++aX X'.h hs)):=by
 have hM:=St.start w0 []
 have hrow:=h.row
 have hln:=h.hlen
 have HT:=qh (fun (W:World) (hb:Below w0.heap.size w0 W)=>Cd (h.tbl.raw.below hb))
 obtain⟨va,vc,hv,hva⟩:=zf h.hok
 obtain⟨xf,xx,xh⟩:=X
 have HC:=qh (show va=none→hs.length=0∧vc=0 from fun e=>by
  rcases xh with _|⟨g1,cap1⟩
  ·have h1:hs.length=0:=h.hok.2
   unfold slV at hv
   injection hv with _ _ h3
   exact⟨h1,h3.symm⟩
  ·obtain⟨h1,-⟩:=hva g1 cap1 rfl
   rw[h1] at e
   cases e)
 have HD:=qh (show ∀ ad,va=some ad→ ∃ g,ad=⟨g,0,none⟩∧ ∀ j u,(hs.flatMap ae.cells)[j]? =some u→w0.cell? ⟨g,j,none⟩=some u from fun ad e=>by
  rcases xh with _|⟨g1,cap1⟩
  ·unfold slV at hv
   injection hv with h3
   rw[←h3] at e
   cases e
  ·obtain⟨h1,-⟩:=hva g1 cap1 rfl
   rw[h1] at e
   cases e
   exact⟨g1,rfl,fun j u hj=>Cc h.hnd hj⟩)
 simp only at hrow hv HT ⊢
 rw[hv] at hrow
 have c0:w0.cell? ⟨xf,0,none⟩=some (.pointer (some ⟨xx.g,0,none⟩)):=hrow 0 _ rfl
 have c1:w0.cell? ⟨xf,1,none⟩=some (.slice va hs.length vc):=hrow 1 _ rfl
 clear h hrow hv hva
 go_enter Tryz.func85,Tryz.ntmps85
 (repeat(first|(refine qW ?_;intros;rename_i hM)|(refine qMk ?_;clear hM;intro w bk hM)))
 change St w0 [] _ (slL none [] 148 3) at hM
 refine St.appendAny (s:=none) (n:=0) (xs:=[]) (news:=hs.flatMap ae.cells) rfl hM rfl rfl rfl rfl rfl (by kernel_rfl) (fun s'=>Swap.all) ⟨rfl,rfl⟩ (fun e=>HC.out e) (sw hs) (fun ad e j u hj=>by
  obtain⟨g,rfl,hc⟩:=HD.out ad e
  rw[ZT,Nat.zero_add]
  exact hM.old (hc j u hj)) (vf hs) (by rw[zj];omega) (by omega) (fun _=> .inr rfl) ?_
 clear hM;intro w s1 hM hk1 _ _
 simp only[laJz,Nat.zero_add] at hM hk1 ⊢
 have HK1:=qh hk1
 obtain⟨ua,uc,hu,-⟩:=zf hk1
 clear hk1
 rw[hu]
 (refine qq ?_)
 (repeat(first|(refine qW ?_;intros;rename_i hM)|(refine qMk ?_;clear hM;intro w bk hM)))
 (refine qK3 (fun R hR=> ?_))
 refine(HT.out _ hM.to_below).mono ?_
 rintro e w' ⟨g',s',rfl,hok,hst⟩;refine hR.out _ _ ?_;clear hR R
 replace hM:=hM.madeM hst (fun y hy=>by
  rcases laBz.1 hy with rfl|hy
  ·rfl
  ·exact zo _ _ _ _ y hy)
 have HOK:=qh hok
 clear hst hok
 (refine qq ?_)
 (repeat(first|(refine qW ?_;intros;rename_i hM)|(refine qMk ?_;clear hM;intro w bk hM)))
 (refine qf ?_)
 refine⟨⟨bk,⟨g',s'⟩,s1⟩,rfl,HK1.out,HOK.out, ?_⟩
 unfold fw
 simp only
 rw[hu]
 exact hM
theorem Cf(qt:Int)(h0:64≤qt)(h1:qt≤1099511627776)(w0:World):Calls Tryz.prog 84 #[.int .i64 qt] w0 fun e w'=> ∃ X zs,e= .returned (.tuple #[.pointer (some ⟨X.f,0,none⟩),.int .i64 0])∧X.h=none∧zs.map (·.1)=(In.new qt).nodes∧zs.flatMap NodV.ents=[]∧St w0 [] w' (fw X 0::gf X.x qt 2 zs)∧yV X.x.s zs∧(∀ z∈zs,SlOK z.2 z.1.names.length (entC z.1.names) 2)∧zs.length≤1000000:=by
 have hM:=St.start w0 []
 have HN:=qh (fun W=>B4 qt h0 h1 W)
 clear h0 h1
 go_enter Tryz.func84,Tryz.ntmps84
 (repeat(first|(refine qW ?_;intros;rename_i hM)|(refine qMk ?_;clear hM;intro w bk hM)))
 (refine qK3 (fun R hR=> ?_))
 refine(HN.out _).mono ?_
 rintro e w' ⟨g,s,zs,rfl,vg,m_,hst,hsl,hnm,nc⟩;refine hR.out _ _ ?_;clear hR R
 replace hM:=hM.madeM hst (fun y hy=>by
  unfold gf at hy
  rw[m_] at hy
  rcases laBz.1 hy with rfl|hy
  ·rfl
  ·exact zo _ _ _ _ y (by simpa using hy))
 have HZ:=qh (And.intro vg (And.intro m_ (And.intro hsl (And.intro hnm nc))))
 clear hst vg m_ hsl hnm nc
 (refine qq ?_)
 (repeat(first|(refine qW ?_;intros;rename_i hM)|(refine qMk ?_;clear hM;intro w bk hM)))
 (refine qf ?_)
 refine⟨⟨bk,⟨g,s⟩,none⟩,zs,rfl,rfl,HZ.out.1,HZ.out.2.1, ?_,HZ.out.2.2.1,HZ.out.2.2.2.1,HZ.out.2.2.2.2⟩
 rw[laYz] at hM
 exact hM
theorem Cg(qt:Int)(h:qt<64∨1099511627776<qt)(w0:World):An 84 #[.int .i64 qt] w0 (.tuple #[.pointer none,.int .i64 1]):=by
 have hM:=St.start w0 []
 have HN:=qh (fun W=>B5 qt h W)
 clear h
 go_enter Tryz.func84,Tryz.ntmps84
 (refine qw ?_;intros;rename_i hM)
 (refine qCB (HN.out _) hM ?_;clear hM;intro w' hM)
 exact qwf
end
end
theorem h_{p q:Prop}(k:q)(h:Hd q→p:=by
 intro q1k
 first|refine qD (id:=9) hM (Sub.skip (Sub.take (Sub.take Sub.nil))) [3,6] [(0,0),(1,0),(2,0),(3,1),(4,0),(5,0),(6,1),(7,2),(8,2),(9,3),(10,2),(11,0),(12,0),(13,3),(14,3)] ?_|refine qD (id:=12) hM (Sub.skip (Sub.take (Sub.take Sub.nil))) [3,6] [(0,0),(1,0),(2,0),(3,1),(4,0),(5,0),(6,1),(7,2),(8,2),(9,3),(10,2),(11,3)] ?_|refine qD (id:=14) hM (Sub.skip (Sub.take (Sub.take Sub.nil))) [3] [(0,0),(1,0),(2,0),(3,1),(4,0),(5,2),(6,2),(7,3),(8,2),(9,3)] ?_|fail
 exact q1k.out):p:=h ⟨k⟩
section
open Go.RowKit Go.Maps
namespace Hs
def handled(t:TabD)(hs:List ae)(o:Int)(p:OpD):(Int×Int×ByteArray)×TabD×List ae:=
 if look hs o p.h=0 then((13,0,⟨#[]⟩),t,hs)
 else if p.kind=5 then((0,0,⟨#[]⟩),bx t hs o p.h,rest hs o p.h)
 else if p.kind=6 then((In.readE t (look hs o p.h) p.at_ p.n,0,In.read t (look hs o p.h) p.at_ p.n),t,hs)
 else if p.kind=7 then(((In.write t (look hs o p.h) p.at_ p.data).1,0,⟨#[]⟩),(In.write t (look hs o p.h) p.at_ p.data).2,hs)
 else if p.kind=8 then(((In.trunc t (look hs o p.h) p.n).1,0,⟨#[]⟩),(In.trunc t (look hs o p.h) p.n).2,hs)
 else((In.readE t (look hs o p.h) 0 1048576,(In.read t (look hs o p.h) 0 1048576).size,⟨#[]⟩),t,hs)
end Hs
section
variable {w w' w0 w1 w2:World}{X X':bQ}{t t':TabD}{zs zs':List NodV}{hs hs':List ae}{N:Nat}{F:List Nat}{L:List Ent}
theorem Zr{q nx:Int}: ∀ k∈eO X hs,∃ r,(k,true,r)∈bw X q nx zs hs:=fun k hk=>by
 rcases Zx.1 hk with rfl|hk|rfl
 ·exact⟨_,by unfold bw fw;exact .head _⟩
 ·obtain⟨y,hy,rfl⟩:=laKz.1 hk
  have h1:=zo _ _ _ _ y hy
  refine⟨y.2.2, ?_⟩
  rw[show(y.1,true,y.2.2)=y by rw[←h1]]
  unfold bw
  exact .tail _ (laEz _ hy)
 ·exact⟨_,by unfold bw rL rE;exact .tail _ (laCz _ (.head _))⟩
def yv(X:bQ)(t:TabD)(zs:List NodV)(hs:List ae)(w:World)(r:(Int×Int×ByteArray)×TabD×List ae)(e:Ending)(w':World):Prop:=e= .returned (.agg #[.int .i64 r.1.1,.int .i64 r.1.2.1,.string r.1.2.2,.slice none 0 0])∧YG X t zs hs r.2.1 r.2.2 w w'
theorem Ch(h:av X t zs hs w0)(I:In.Inv N t)(hN:N≤900000)(o:Int)(p:OpD)(hd:p.data.size≤1000000000)(hk:Hs.look hs o p.h=0):Calls Tryz.prog 136 #[.pointer (some ⟨X.f,0,none⟩),.int .i64 o,.agg p.cells.toArray] w0 (yv X t zs hs w0 (Hs.handled t hs o p)):=by
 obtain⟨xf,g,xs,xh,va,vc,rfl,hv,hM,bo,cN,cM,HB⟩:=ZF h
 have HV:=qh hv
 have HK:=qh h.hok
 have HL:=qh h.hlen
 have gq:=qh (fun (W:World) hA=>ZX (bo.out W hA) o p.h)
 obtain⟨R,hR0⟩: ∃ R,Hs.handled t hs o p=R:=⟨_,rfl⟩
 rw[hR0]
 unfold Hs.handled at hR0
 rw[if_pos hk] at hR0
 rw[hk] at gq
 have HR0:=qh hR0
 obtain⟨kind,path,dest,hh,at_,n,data,pid,birth⟩:=p
 simp only at gq
 unfold OpD.cells
 simp only
 clear h I hv hd hk hR0
 go_enter Tryz.func136,Tryz.ntmps136
 (repeat(first|(refine qW0 ?_;clear hM;intros;rename_i hM)|((refine qMk ?_);clear hM;intro w bk hM)|((refine h_ ?_);clear hM;intro w hM Kr hKr)))
 (refine qCB (gq.out _ (hM.part (Part.skip (Part.skip Part.all)))) hM ?_;clear hM;intro w' hM)
 (repeat(first|(refine qW0 ?_;clear hM;intros;rename_i hM)|((refine qMk ?_);clear hM;intro w bk hM)|((refine h_ ?_);clear hM;intro w hM Kr hKr)))
 (refine qf ?_)
 rw[←HR0.out]
 exact⟨rfl,HB.out _ hM.forget.forget⟩
theorem Ci(h:av X t zs hs w0)(I:In.Inv N t)(hN:N≤900000)(o:Int)(p:OpD)(hd:p.data.size≤1000000000)(hk:Hs.look hs o p.h≠0)(h5:p.kind=5):Calls Tryz.prog 136 #[.pointer (some ⟨X.f,0,none⟩),.int .i64 o,.agg p.cells.toArray] w0 (yv X t zs hs w0 (Hs.handled t hs o p)):=by
 obtain⟨xf,g,xs,xh,va,vc,rfl,hv,hM,bo,cN,cM,HB⟩:=ZF h
 have HV:=qh hv
 have HK:=qh h.hok
 have HL:=qh h.hlen
 have gq:=qh (fun (W:World) hA=>ZX (bo.out W hA) o p.h)
 obtain⟨R,hR0⟩: ∃ R,Hs.handled t hs o p=R:=⟨_,rfl⟩
 rw[hR0]
 unfold Hs.handled at hR0
 rw[if_neg hk,if_pos h5] at hR0
 have q0:(Hs.look hs o p.h==0)=false:=qne.2 hk
 have HC:=qh (fun (W:World) hA=>u9 (bo.out W hA) I hN o p.h)
 have HR0:=qh hR0
 obtain⟨kind,path,dest,hh,at_,n,data,pid,birth⟩:=p
 simp only at gq HR0 q0 hk HC h5 ⊢
 unfold OpD.cells
 simp only
 generalize Hs.look hs o hh=id at*
 subst h5
 clear h I hv hd hk hR0
 go_enter Tryz.func136,Tryz.ntmps136
 (repeat(first|(refine qW0 ?_;clear hM;intros;rename_i hM)|((refine qMk ?_);clear hM;intro w bk hM)|((refine h_ ?_);clear hM;intro w hM Kr hKr)))
 (refine qCB (gq.out _ (hM.part (Part.skip (Part.skip Part.all)))) hM ?_;clear hM;intro w' hM)
 (repeat(first|(refine qW0 ?_;clear hM;intros;rename_i hM)|((refine qMk ?_);clear hM;intro w bk hM)|((refine h_ ?_);clear hM;intro w hM Kr hKr)))
 (refine qKx ?_;intro R hR)
 refine(HC.out _ (hM.part (Part.skip (Part.skip Part.all)))).mono ?_
 rintro e w' ⟨rfl,X2,aF,hto⟩
 have jC:=qh hM.only.size
 rw[←zP (X:=⟨xf,⟨g,xs⟩,xh⟩) HV.out] at hM
 replace hM:=hM.az (Swap.skip (Swap.skip Swap.all)) hto.st Zr hto.grow
 first|refine hR.out _ _ ?_|refine hR.out _ _ (fun _=>⟨hM.only,nofun⟩) ?_
 clear hR R
 have cL:=qh hto
 clear hto HC
 (refine qq ?_)
 (repeat(first|(refine qW0 ?_;clear hM;intros;rename_i hM)|((refine qMk ?_);clear hM;intro w bk hM)|((refine h_ ?_);clear hM;intro w hM Kr hKr)))
 (refine qf ?_)
 rw[←HR0.out]
 have hto:=cL.out
 exact⟨rfl,X2,aF,hto.f,hto.g,⟨hM.forget.forget.whole,hto.is.sl,hto.is.names,hto.is.len,hto.is.nodes,hto.is.hok,hto.is.hlen⟩,hM.only,(fun k hk=>(hto.own k hk).imp (fun h=>h) (fun h=>Nat.le_trans jC.out h)),(fun k hk=>(hto.grow k hk).imp (fun h=>h) (fun h=>Nat.le_trans jC.out h))⟩
theorem Cj(h:av X t zs hs w0)(I:In.Inv N t)(hN:N≤900000)(o:Int)(p:OpD)(hd:p.data.size≤1000000000)(hk:Hs.look hs o p.h≠0)(h5:p.kind=6):Calls Tryz.prog 136 #[.pointer (some ⟨X.f,0,none⟩),.int .i64 o,.agg p.cells.toArray] w0 (yv X t zs hs w0 (Hs.handled t hs o p)):=by
 obtain⟨xf,g,xs,xh,va,vc,rfl,hv,hM,bo,cN,cM,HB⟩:=ZF h
 have HV:=qh hv
 have HK:=qh h.hok
 have HL:=qh h.hlen
 have gq:=qh (fun (W:World) hA=>ZX (bo.out W hA) o p.h)
 obtain⟨R,hR0⟩: ∃ R,Hs.handled t hs o p=R:=⟨_,rfl⟩
 rw[hR0]
 unfold Hs.handled at hR0
 rw[if_neg hk,if_neg (by omega),if_pos h5] at hR0
 have q0:(Hs.look hs o p.h==0)=false:=qne.2 hk
 have HC:=qh (fun (W:World) hA=>uT (cN.out W hA) I (Hs.look hs o p.h) p.at_ p.n)
 have HR0:=qh hR0
 obtain⟨kind,path,dest,hh,at_,n,data,pid,birth⟩:=p
 simp only at gq HR0 q0 hk HC h5 ⊢
 unfold OpD.cells
 simp only
 generalize Hs.look hs o hh=id at*
 subst h5
 clear h I hv hd hk hR0
 go_enter Tryz.func136,Tryz.ntmps136
 (repeat(first|(refine qW0 ?_;clear hM;intros;rename_i hM)|((refine qMk ?_);clear hM;intro w bk hM)|((refine h_ ?_);clear hM;intro w hM Kr hKr)))
 (refine qCB (gq.out _ (hM.part (Part.skip (Part.skip Part.all)))) hM ?_;clear hM;intro w' hM)
 (repeat(first|(refine qW0 ?_;clear hM;intros;rename_i hM)|((refine qMk ?_);clear hM;intro w bk hM)|((refine h_ ?_);clear hM;intro w hM Kr hKr)))
 (refine qCB (HC.out _ (hM.part (Part.skip (Part.skip (Part.skip (Part.past Part.all)))))) hM ?_;clear hM;intro w' hM)
 (repeat(first|(refine qW0 ?_;clear hM;intros;rename_i hM)|((refine qMk ?_);clear hM;intro w bk hM)|((refine h_ ?_);clear hM;intro w hM Kr hKr)))
 (refine qf ?_)
 rw[←HR0.out]
 exact⟨rfl,HB.out _ hM.forget.forget⟩
theorem Ck(h:av X t zs hs w0)(I:In.Inv N t)(hN:N≤900000)(o:Int)(p:OpD)(hd:p.data.size≤1000000000)(hk:Hs.look hs o p.h≠0)(h5:p.kind=7):Calls Tryz.prog 136 #[.pointer (some ⟨X.f,0,none⟩),.int .i64 o,.agg p.cells.toArray] w0 (yv X t zs hs w0 (Hs.handled t hs o p)):=by
 obtain⟨xf,g,xs,xh,va,vc,rfl,hv,hM,bo,cN,cM,HB⟩:=ZF h
 have HV:=qh hv
 have HK:=qh h.hok
 have HL:=qh h.hlen
 have gq:=qh (fun (W:World) hA=>ZX (bo.out W hA) o p.h)
 obtain⟨R,hR0⟩: ∃ R,Hs.handled t hs o p=R:=⟨_,rfl⟩
 rw[hR0]
 unfold Hs.handled at hR0
 rw[if_neg hk,if_neg (by omega),if_neg (by omega),if_pos h5] at hR0
 have q0:(Hs.look hs o p.h==0)=false:=qne.2 hk
 have HC:=qh (fun (W:World) hA=>BV (cN.out W hA) I hN (Hs.look hs o p.h) p.at_ p.data hd)
 have HR0:=qh hR0
 obtain⟨kind,path,dest,hh,at_,n,data,pid,birth⟩:=p
 simp only at gq HR0 q0 hk HC h5 ⊢
 unfold OpD.cells
 simp only
 generalize Hs.look hs o hh=id at*
 subst h5
 clear h I hv hd hk hR0
 go_enter Tryz.func136,Tryz.ntmps136
 (repeat(first|(refine qW0 ?_;clear hM;intros;rename_i hM)|((refine qMk ?_);clear hM;intro w bk hM)|((refine h_ ?_);clear hM;intro w hM Kr hKr)))
 (refine qCB (gq.out _ (hM.part (Part.skip (Part.skip Part.all)))) hM ?_;clear hM;intro w' hM)
 (repeat(first|(refine qW0 ?_;clear hM;intros;rename_i hM)|((refine qMk ?_);clear hM;intro w bk hM)|((refine h_ ?_);clear hM;intro w hM Kr hKr)))
 (refine qKx ?_;intro R hR)
 refine(HC.out _ (hM.part (Part.skip (Part.skip (Part.skip (Part.past Part.all)))))).mono ?_
 rintro e w' ⟨rfl,s2,aF,aZ,hto⟩
 have ff:=qh (Grow.trans (fun k hk=> .inl (cM.out k hk)) hto.grow hM.only.size:Grow w0 (ze (bw ⟨xf,⟨g,xs⟩,xh⟩ t.quota (t.last+1) zs hs)) _)
 replace hM:=hM.az (Swap.skip (Swap.skip (Swap.skip (Swap.past Swap.all)))) hto.st Yg hto.grow
 first|refine hR.out _ _ ?_|refine hR.out _ _ (fun _=>hM.held (fun x hx=>by simp only[laBz,lbRz,or_false] at hx;rcases hx with rfl|rfl<;> repeat constructor)) ?_
 clear hR R
 have HZ:=qh (And.intro hto.raw.sl (And.intro hto.raw.names (And.intro hto.raw.len aZ)))
 clear hto aZ HC
 (refine qq ?_)
 (repeat(first|(refine qW0 ?_;clear hM;intros;rename_i hM)|((refine qMk ?_);clear hM;intro w bk hM)|((refine h_ ?_);clear hM;intro w hM Kr hKr)))
 (refine qf ?_)
 rw[←HR0.out]
 refine⟨rfl,⟨xf,⟨g,s2⟩,xh⟩,aF,St.dC ?_ rfl rfl HZ.out.1 HZ.out.2.1 HZ.out.2.2.1 HZ.out.2.2.2 HK.out HL.out ff.out⟩
 rw[zP (X:=⟨xf,⟨g,s2⟩,xh⟩) HV.out]
 exact hM.forget.forget
theorem Cl(h:av X t zs hs w0)(I:In.Inv N t)(hN:N≤900000)(o:Int)(p:OpD)(hd:p.data.size≤1000000000)(hk:Hs.look hs o p.h≠0)(h5:p.kind=8):Calls Tryz.prog 136 #[.pointer (some ⟨X.f,0,none⟩),.int .i64 o,.agg p.cells.toArray] w0 (yv X t zs hs w0 (Hs.handled t hs o p)):=by
 obtain⟨xf,g,xs,xh,va,vc,rfl,hv,hM,bo,cN,cM,HB⟩:=ZF h
 have HV:=qh hv
 have HK:=qh h.hok
 have HL:=qh h.hlen
 have gq:=qh (fun (W:World) hA=>ZX (bo.out W hA) o p.h)
 obtain⟨R,hR0⟩: ∃ R,Hs.handled t hs o p=R:=⟨_,rfl⟩
 rw[hR0]
 unfold Hs.handled at hR0
 rw[if_neg hk,if_neg (by omega),if_neg (by omega),if_neg (by omega),if_pos h5] at hR0
 have q0:(Hs.look hs o p.h==0)=false:=qne.2 hk
 have HC:=qh (fun (W:World) hA=>BU (cN.out W hA) I hN (Hs.look hs o p.h) p.n)
 have HR0:=qh hR0
 obtain⟨kind,path,dest,hh,at_,n,data,pid,birth⟩:=p
 simp only at gq HR0 q0 hk HC h5 ⊢
 unfold OpD.cells
 simp only
 generalize Hs.look hs o hh=id at*
 subst h5
 clear h I hv hd hk hR0
 go_enter Tryz.func136,Tryz.ntmps136
 (repeat(first|(refine qW0 ?_;clear hM;intros;rename_i hM)|((refine qMk ?_);clear hM;intro w bk hM)|((refine h_ ?_);clear hM;intro w hM Kr hKr)))
 (refine qCB (gq.out _ (hM.part (Part.skip (Part.skip Part.all)))) hM ?_;clear hM;intro w' hM)
 (repeat(first|(refine qW0 ?_;clear hM;intros;rename_i hM)|((refine qMk ?_);clear hM;intro w bk hM)|((refine h_ ?_);clear hM;intro w hM Kr hKr)))
 (refine qKx ?_;intro R hR)
 refine(HC.out _ (hM.part (Part.skip (Part.skip (Part.skip (Part.past Part.all)))))).mono ?_
 rintro e w' ⟨rfl,s2,aF,aZ,hto⟩
 have ff:=qh (Grow.trans (fun k hk=> .inl (cM.out k hk)) hto.grow hM.only.size:Grow w0 (ze (bw ⟨xf,⟨g,xs⟩,xh⟩ t.quota (t.last+1) zs hs)) _)
 replace hM:=hM.az (Swap.skip (Swap.skip (Swap.skip (Swap.past Swap.all)))) hto.st Yg hto.grow
 first|refine hR.out _ _ ?_|refine hR.out _ _ (fun _=>hM.held (fun x hx=>by simp only[laBz,lbRz,or_false] at hx;rcases hx with rfl|rfl<;> repeat constructor)) ?_
 clear hR R
 have HZ:=qh (And.intro hto.raw.sl (And.intro hto.raw.names (And.intro hto.raw.len aZ)))
 clear hto aZ HC
 (refine qq ?_)
 (repeat(first|(refine qW0 ?_;clear hM;intros;rename_i hM)|((refine qMk ?_);clear hM;intro w bk hM)|((refine h_ ?_);clear hM;intro w hM Kr hKr)))
 (refine qf ?_)
 rw[←HR0.out]
 refine⟨rfl,⟨xf,⟨g,s2⟩,xh⟩,aF,St.dC ?_ rfl rfl HZ.out.1 HZ.out.2.1 HZ.out.2.2.1 HZ.out.2.2.2 HK.out HL.out ff.out⟩
 rw[zP (X:=⟨xf,⟨g,s2⟩,xh⟩) HV.out]
 exact hM.forget.forget
theorem Cm(h:av X t zs hs w0)(I:In.Inv N t)(hN:N≤900000)(o:Int)(p:OpD)(hd:p.data.size≤1000000000)(hk:Hs.look hs o p.h≠0)(h5:p.kind≠5)(h6:p.kind≠6)(h7:p.kind≠7)(h8:p.kind≠8):Calls Tryz.prog 136 #[.pointer (some ⟨X.f,0,none⟩),.int .i64 o,.agg p.cells.toArray] w0 (yv X t zs hs w0 (Hs.handled t hs o p)):=by
 obtain⟨xf,g,xs,xh,va,vc,rfl,hv,hM,bo,cN,cM,HB⟩:=ZF h
 have HV:=qh hv
 have HK:=qh h.hok
 have HL:=qh h.hlen
 have gq:=qh (fun (W:World) hA=>ZX (bo.out W hA) o p.h)
 obtain⟨R,hR0⟩: ∃ R,Hs.handled t hs o p=R:=⟨_,rfl⟩
 rw[hR0]
 unfold Hs.handled at hR0
 rw[if_neg hk,if_neg h5,if_neg h6,if_neg h7,if_neg h8] at hR0
 have q0:(Hs.look hs o p.h==0)=false:=qne.2 hk
 have HC:=qh (fun (W:World) hA=>uT (cN.out W hA) I (Hs.look hs o p.h) 0 1048576)
 have HR0:=qh hR0
 obtain⟨kind,path,dest,hh,at_,n,data,pid,birth⟩:=p
 simp only at gq HR0 q0 hk HC h5 h6 h7 h8 ⊢
 unfold OpD.cells
 simp only
 generalize Hs.look hs o hh=id at*
 have b5:=qne.2 h5
 have b6:=qne.2 h6
 have b7:=qne.2 h7
 have b8:=qne.2 h8
 clear h5 h6 h7 h8
 clear h I hv hd hk hR0
 go_enter Tryz.func136,Tryz.ntmps136
 (repeat(first|(refine qW0 ?_;clear hM;intros;rename_i hM)|((refine qMk ?_);clear hM;intro w bk hM)|((refine h_ ?_);clear hM;intro w hM Kr hKr)))
 (refine qCB (gq.out _ (hM.part (Part.skip (Part.skip Part.all)))) hM ?_;clear hM;intro w' hM)
 (repeat(first|(refine qW0 ?_;clear hM;intros;rename_i hM)|((refine qMk ?_);clear hM;intro w bk hM)|((refine h_ ?_);clear hM;intro w hM Kr hKr)))
 (refine qCB (HC.out _ (hM.part (Part.skip (Part.skip (Part.skip (Part.past Part.all)))))) hM ?_;clear hM;intro w' hM)
 (repeat(first|(refine qW0 ?_;clear hM;intros;rename_i hM)|((refine qMk ?_);clear hM;intro w bk hM)|((refine h_ ?_);clear hM;intro w hM Kr hKr)))
 (refine qf ?_)
 rw[←HR0.out]
 exact⟨rfl,HB.out _ hM.forget.forget⟩
theorem Cn(h:av X t zs hs w0)(I:In.Inv N t)(hN:N≤900000)(o:Int)(p:OpD)(hd:p.data.size≤1000000000):Calls Tryz.prog 136 #[.pointer (some ⟨X.f,0,none⟩),.int .i64 o,.agg p.cells.toArray] w0 (yv X t zs hs w0 (Hs.handled t hs o p)):=by
 by_cases hk:Hs.look hs o p.h=0
 ·exact Ch h I hN o p hd hk
 by_cases h5:p.kind=5
 ·exact Ci h I hN o p hd hk h5
 by_cases h6:p.kind=6
 ·exact Cj h I hN o p hd hk h6
 by_cases h7:p.kind=7
 ·exact Ck h I hN o p hd hk h7
 by_cases h8:p.kind=8
 ·exact Cl h I hN o p hd hk h8
 exact Cm h I hN o p hd hk h5 h6 h7 h8
end
end
end Go.Proofs.YtcicjklhbnipcaaGreatDoor
