import Derived.Test.YtjkoadoekaplpaaGreatPV
namespace Go.Proofs.YtjkoadoekaplpaaGreat
open Go Go.Proofs.YtjkoadoekaplpaaGreat.R
set_option linter.unusedVariables false
set_option linter.unusedSimpArgs false
section
theorem bBe.loop{v:Int}(hv:okV v){L:List (List Int)}{A:List Int}(hn:L.length<=100000)(hr:∀c∈L,c.length<=140737488351232/\∀x∈c,in64 x)(hA:A.length<=140737488351232)(hA64:∀x∈A,in64 x):
  ∀(n i:Nat),i+n=L.length->bBe.l0 v A L (L.length:Int) (i:Int)=some (if okL v (L.drop i)/\okA v A [] then 0 else 8)
 |0,i,hi=>by
  rw[bBe.l0_eq,cd,if_neg (by omega),List.drop_of_length_le (by omega),bCz hA (by simp) hA64,Option.bind_some,cn]
  have hnil:okL v []:=fun c hc=>by cases hc
  by_cases h:okA v A []
  .rw[if_pos h,if_pos rfl,if_pos ⟨hnil,h⟩]
  .rw[if_neg h,if_neg (by omega),if_neg (fun g=>h g.2)]
 |n+1,i,hi=>by
  have hlt:i<L.length:=by omega
  have hw:IntKind.wrap .i64 ((i:Int)+1)=((i+1:Nat):Int):=by rw[wr]<;>omega
  obtain⟨h1,h2⟩:=hr _ (List.getElem_mem hlt)
  rw[bBe.l0_eq,cd,if_pos (by omega),bCq hlt,Option.bind_some,bD0 h1 h2,Option.bind_some,if_pos hv,cn,hw,bBe.loop hv hn hr hA hA64 n (i+1) (by omega),drop_cons hlt]
  by_cases hc:okC v L[i]
  .rw[if_pos hc,if_pos rfl]
   by_cases h3:okL v (L.drop (i+1))/\okA v A []
   .rw[if_pos h3,if_pos]
    refine⟨fun d hd=>?_,h3.2⟩
    rcases List.mem_cons.1 hd with h|h
    .rw[h];exact hc
    .exact h3.1 d h
   .rw[if_neg h3,if_neg (fun h=>h3 ⟨fun d hd=>h.1 d (List.mem_cons_of_mem _ hd),h.2⟩)]
  .rw[if_neg hc,if_neg (by omega),if_neg (fun h=>hc (h.1 _ (List.mem_cons_self ..)))]
theorem bMk{v b:Int}{L:List (List Int)}{A:List Int}(hn:L.length<=100000)(hr:∀c∈L,c.length<=140737488351232/\∀x∈c,in64 x)(hA:A.length<=140737488351232)(hA64:∀x∈A,in64 x):
  bBe v L A b=some (if v<0\/v>4000\/b<0\/b>100000 then 2 else if L.length>20000 then 4 else if okL v L/\okA v A [] then 0 else 8):=by
 rw[bBe.eq,cd]
 by_cases h1:v<0
 .rw[if_pos h1,if_pos (.inl h1)]
 rw[if_neg h1,cd]
 by_cases h2:v>4000
 .rw[if_pos h2,if_pos (.inr (.inl h2))]
 rw[if_neg h2,cd]
 by_cases h3:b<0
 .rw[if_pos h3,if_pos (.inr (.inr (.inl h3)))]
 rw[if_neg h3,cd]
 by_cases h4:b>100000
 .rw[if_pos h4,if_pos (.inr (.inr (.inr h4)))]
 rw[if_neg h4,cd,if_neg (by omega:¬(v<0\/v>4000\/b<0\/b>100000))]
 by_cases h5:L.length>20000
 .rw[if_pos (by omega),if_pos h5]
 .have:=bBe.loop (v:=v) (by omega) hn hr hA hA64 L.length 0 (by omega)
  rw[show((0:Nat):Int)=0 from rfl,List.drop_zero]at this
  rw[if_neg (by omega),if_neg h5,this]
section
variable {v:Int} {A H:List Int} {L log:List (List Int)} {t s:List Int} {k:Int}
abbrev SolT:=Int×List Int×List Int×List (List Int)×(Int×List Int×List Int)×Bool×List Bool×List Int×List (List Int)×Int
abbrev solT(v:Int)(A H:List Int)(L:List (List Int))(t s:List Int)(bo:Bool)(m:List Bool)(co:List Int)(log:List (List Int))(k:Int):SolT:=(v,(A,(H,(L,((v,(t,s)),(bo,(m,(co,(log,k)))))))))
theorem bG5{bo:Bool}{m:List Bool}{co c:List Int}(h1:L.length<20000)(h2:log.length<=20000):bA4 v A H L v t s bo m co log k c=some (0,solT v A H (L++[c]) t s bo m co (log++[c]) k):=by
 rw[bA4.eq,ce,if_neg (by omega),bCi (by simp;omega),Option.bind_some,bCi (by simp;omega),Option.bind_some]
theorem bN0.loop(h:okA v t s){b:Bool}{m:List Bool}{co o1:List Int}:∀(n i:Nat),i+n=s.length ->
  bAr.l0 (s.length:Int) (i:Int) v A v b k log co m s t L H ((List.range i).map (dc t s)) o1=bAr.l0 (s.length:Int) (s.length:Int) v A v b k log co m s t L H (decs t s) o1
 |0,i,hi=>by
  have:i=s.length:=by omega
  subst this;rfl
 |n+1,i,hi=>by
  have hlt:i<s.length:=by omega
  have hv:=h.vars
  have hsh:=h.short
  have hw:IntKind.wrap .i64 ((i:Int)+1)=((i+1:Nat):Int):=by rw[wr]<;>omega
  obtain⟨j,hj,h1,e1⟩:=cNh h hlt
  rw[<-bN0.loop h n (i+1) (by omega),bAr.l0_eq (x17:=(i:Int)),cd,if_pos (by omega),bCq hlt,Option.bind_some,Int.toNat_natCast,List.getElem?_eq_getElem hlt,Option.bind_some,h1,bCq hj,Option.bind_some,Int.toNat_natCast,
   List.getElem?_eq_getElem hj,Option.bind_some,bCi (by simp;omega),Option.bind_some,hw,List.range_succ,List.map_append,List.map_singleton,e1]
theorem bNh(h:okA v t s)(hL:okL v L)(hn:L.length<20000)(hlog:log.length<=20000)(hk:0<=k/\k<=1000000)(hc:bFw v L (decs t s)=true){c:List Int}(hce:c=lrnC v L (decs t s))(hcok:okC v c)
  {t' s':List Int} (hb:c≠[]->bHc v t s c=((v,(t',s')),0)) :
  bAr v A H L v t s false [] [] log k=if c=[] then some (false,0,solT v A H (L++[[]]) t s false [] [] (log++[[]]) k) else some (true,0,solT v A H (L++[c]) t' s' false [] [] (log++[c]) (k+1)):=by
 have hv:=h.vars
 have hsh:=h.short
 have ht64:∀l∈t,in64 l:=fun l hl=>by have:=h.lits l hl;omega
 have g:=bN0.loop (A:=A) (H:=H) (L:=L) (log:=log) (k:=k) (b:=false) (m:=[]) (co:=[]) (o1:=[]) h s.length 0 (by omega)
 rw[show((0:Nat):Int)=0 from rfl]at g
 have e0:bAr v A H L v t s false [] [] log k=_:=(bAr.eq ..).trans g
 have hD:=bJx h
 have hdl:(decs t s).length=s.length:=by simp[decs]
 rw[e0,bAr.l0_eq,cd,if_neg (by omega),cd]
 by_cases hs:s.length=0
 .have hd0:decs t s=[]:=List.eq_nil_of_length_eq_zero (by omega)
  have hc0:c=[]:=by rw[hce,hd0];exact cKe
  rw[if_neg (by omega),ce,if_pos (by simp),bG5 hn hlog,Option.bind_some,if_pos hc0]
 .rw[if_pos (by omega),bC7 hD hL (by omega) hc,Option.bind_some,<-hce]
  dsimp only
  rw[cn,if_pos rfl,ce]
  by_cases hc0:c=[]
  .rw[if_pos (by rw[hc0];rfl),if_pos hc0,bG5 hn hlog,Option.bind_some]
  .have hcl:¬(c.length:Int)=0:=fun e=>hc0 (List.eq_nil_of_length_eq_zero (by omega))
   have hc64:∀l∈c,in64 l:=fun l hl=>by have:=hcok.1 l hl;omega
   have hcs:=hcok.short hv
   have hw:IntKind.wrap .i64 (k+1)=k+1:=by rw[wr]<;>omega
   rw[if_neg hcl,if_neg hc0,bL9 (by omega) (by omega) ht64 (by omega) hc64,Option.bind_some,hb hc0]
   dsimp only
   rw[cn,if_pos rfl,hw,bG5 hn hlog,Option.bind_some]
def cJ8(v:Int)(A H:List Int)(L:List (List Int))(t s:List Int)(bo:Bool)(m:List Bool)(co:List Int)(log:List (List Int))(k:Int):Int×SolT:=
 match bM3 A t with
 |some l=>if isS t l=0 then(2,solT v A H L t s bo m co log k) else(0,solT v A H L (t++[l]) (s++[(t.length:Int)]) bo m co log k)
 |none=>if lf v t=0 then(1,solT v A H L t s bo m co log k) else(0,solT v A H L (t++[2*lf v t+1]) (s++[(t.length:Int)]) bo m co log k)
theorem cF4{l:Int}{r:List Int}:bM3 (l::r) t=if isS t l=1 then bM3 r t else some l:=by
 unfold bM3
 rw[List.find?_cons]
 by_cases h:isS t l=1
 .rw[if_pos h];simp[h]
 .rw[if_neg h];simp[h]
theorem bVc.loop(h:okA v t s)(hA:∀a∈A,isLit v a)(hn:A.length<=100000){bo:Bool}{m:List Bool}{co:List Int}:∀(n i:Nat),i+n=A.length ->
  bAx.l0 0 A (A.length:Int) (i:Int) v A v bo k log co m s t L (allL v.toNat)=some (match bM3 (A.drop i) t with
   |some l=>if isS t l=0 then(2,solT v A (allL v.toNat) L t s bo m co log k) else(0,solT v A (allL v.toNat) L (t++[l]) (s++[(t.length:Int)]) bo m co log k)
   |none=>if lf v t=0 then(1,solT v A (allL v.toNat) L t s bo m co log k) else(0,solT v A (allL v.toNat) L (t++[2*lf v t+1]) (s++[(t.length:Int)]) bo m co log k))
 |0,i,hi=>by
  have hv:=h.vars
  have hsh:=h.short
  have ht64:∀l∈t,in64 l:=fun l hl=>by have:=h.lits l hl;omega
  have hw0:bM3 (A.drop i) t=none:=by rw[List.drop_of_length_le (by omega)];rfl
  rw[bAx.l0_eq,cd,if_neg (by omega),ce,if_pos rfl,bNf (by omega) (by omega) ht64,Option.bind_some,hw0]
  dsimp only
  rcases cJ7 h with⟨h1,a,b,h2⟩|⟨h1,r,h2⟩
  .rw[h2,if_pos h1]
   dsimp only
   rw[cn,if_neg (by omega)]
  .rw[h2,if_neg h1]
   have hb:=(bNv (v:=v) (by omega) t).resolve_left fun h=>h1 h.1
   have hw:IntKind.wrap .i64 (IntKind.wrap .i64 (2*lf v t)+1)=2*lf v t+1:=by rw[wr (x:=2*lf v t) (by omega) (by omega),wr (by omega) (by omega)]
   dsimp only
   rw[cn,if_pos rfl,bCi (by simp;omega),Option.bind_some,hw,bCi (by simp;omega),Option.bind_some]
 |n+1,i,hi=>by
  have hlt:i<A.length:=by omega
  have hv:=h.vars
  have hsh:=h.short
  have hl:=hA _ (List.getElem_mem hlt)
  have ht64:∀l∈t,in64 l:=fun l hl=>by have:=h.lits l hl;omega
  have hw:IntKind.wrap .i64 ((i:Int)+1)=((i+1:Nat):Int):=by rw[wr]<;>omega
  have hval:valC v t s A[i]=(isS t A[i],0):=by unfold valC;rw[if_pos h,if_pos hl]
  rw[bAx.l0_eq,cd,if_pos (by omega),bCq hlt,Option.bind_some,bVe (by omega) (by omega) ht64 (by omega),Option.bind_some,hval]
  dsimp only
  rw[ce,ce,ce,drop_cons hlt,cF4]
  rcases bDh t A[i]with h0|h0|h0
  .rw[if_pos h0,if_neg (by omega)]
   dsimp only
   rw[if_pos h0]
  .rw[if_neg (by omega),if_neg (by omega),if_pos h0,hw,bVc.loop h hA hn n (i+1) (by omega)]
  .rw[if_neg (by omega),if_pos h0,if_neg (by omega),if_neg (by omega),bCi (by simp;omega),Option.bind_some,bCi (by simp;omega),Option.bind_some]
   dsimp only
   rw[if_neg (by omega)]
theorem bG6(h:okA v t s)(hA:∀a∈A,isLit v a)(hn:A.length<=100000){bo:Bool}{m:List Bool}{co:List Int}:
  bAx v A (allL v.toNat) L v t s bo m co log k=some (cJ8 v A (allL v.toNat) L t s bo m co log k):=by
 have:=bVc.loop (L:=L) (log:=log) (k:=k) (bo:=bo) (m:=m) (co:=co) h hA hn A.length 0 (by omega)
 rw[List.drop_zero]at this
 rw[bAx.eq]
 exact this
theorem bY3(h:okA v t s)(hA:∀a∈A,isLit v a)(hn:A.length<=100000){bo:Bool}{m:List Bool}{co:List Int}{l:Int}(hw:bM3 A t=some l)(h0:isS t l=0):
  bAx v A (allL v.toNat) L v t s bo m co log k=some (2,solT v A (allL v.toNat) L t s bo m co log k):=by
 rw[bG6 h hA hn];unfold cJ8;rw[hw];dsimp only;rw[if_pos h0]
theorem bY5(h:okA v t s)(hA:∀a∈A,isLit v a)(hn:A.length<=100000){bo:Bool}{m:List Bool}{co:List Int}{l:Int}(hw:bM3 A t=some l)(h0:¬isS t l=0):
  bAx v A (allL v.toNat) L v t s bo m co log k=some (0,solT v A (allL v.toNat) L (t++[l]) (s++[(t.length:Int)]) bo m co log k):=by
 rw[bG6 h hA hn];unfold cJ8;rw[hw];dsimp only;rw[if_neg h0]
theorem bY4(h:okA v t s)(hA:∀a∈A,isLit v a)(hn:A.length<=100000){bo:Bool}{m:List Bool}{co:List Int}(hw:bM3 A t=none)(h0:lf v t=0):
  bAx v A (allL v.toNat) L v t s bo m co log k=some (1,solT v A (allL v.toNat) L t s bo m co log k):=by
 rw[bG6 h hA hn];unfold cJ8;rw[hw];dsimp only;rw[if_pos h0]
theorem bY2(h:okA v t s)(hA:∀a∈A,isLit v a)(hn:A.length<=100000){bo:Bool}{m:List Bool}{co:List Int}(hw:bM3 A t=none)(h0:¬lf v t=0):
  bAx v A (allL v.toNat) L v t s bo m co log k=some (0,solT v A (allL v.toNat) L (t++[2*lf v t+1]) (s++[(t.length:Int)]) bo m co log k):=by
 rw[bG6 h hA hn];unfold cJ8;rw[hw];dsimp only;rw[if_neg h0]
theorem bV1(hA:okA v A [])(hL:okL v L)(hn:L.length<20000)(hlog:log.length<=20000)(hc:bFw v L A=true){m:List Bool}{co:List Int}{bo:Bool}:
  bA0 v A H L v t s bo m co log k 2=some (0,solT v A H (L++[lrnC v L A]) t s bo m co (log++[lrnC v L A]) k):=by
 rw[bA0.eq,ce,if_pos rfl,bC7 hA hL (by omega) hc,Option.bind_some]
 dsimp only
 rw[cn,if_pos rfl,bG5 hn hlog,Option.bind_some]
theorem bRr.loop{T:List Int}(h:okA v T s){bo:Bool}{co:List Int}:∀(n i:Nat),i+n=T.length ->
  bA0.l0 (T.length:Int) (i:Int) v A v bo k log co [] s T L H (mdl v (T.take i))=some (0,solT v A H L T s bo (mdl v T) co log k)
 |0,i,hi=>by
  rw[bA0.l0_eq,cd,if_neg (by omega),List.take_of_length_le (by omega)]
 |n+1,i,hi=>by
  have hlt:i<T.length:=by omega
  have hv:=h.vars
  have hsh:=h.short
  have hl:=h.lits _ (List.getElem_mem hlt)
  have hw:IntKind.wrap .i64 ((i:Int)+1)=((i+1:Nat):Int):=by rw[wr]<;>omega
  have hw2:IntKind.wrap .i64 (IntKind.wrap .i64 (Int.tdiv T[i] 2)-1)=T[i]/2-1:=by rw[td (by omega) (by omega),wr (by omega) (by omega)]
  have hlen:(mdl v (T.take i)).length=v.toNat:=bNt
  have hidx:(T[i]/2-1).toNat<(mdl v (T.take i)).length:=by omega
  have e1:(T[i]%2==0)=decide (T[i]%2=0):=by rw[Bool.eq_iff_iff];simp
  rw[bA0.l0_eq,cd,if_pos (by omega),bCq hlt,Option.bind_some,Int.toNat_natCast,List.getElem?_eq_getElem hlt,Option.bind_some,hw2,gi' (by omega),List.getElem?_eq_getElem hidx,Option.bind_some,Option.bind_some,hw,tm (by omega),e1,<-cDx h hlt,
   bRr.loop h n (i+1) (by omega)]
theorem bV2{T:List Int}(h:okA v T s):bA0 v A H L v T s false [] [] log k 1=some (0,solT v A H L T s true (mdl v T) [] log k):=by
 have hv:=h.vars
 have g:=bRr.loop (A:=A) (H:=H) (L:=L) (log:=log) (k:=k) (bo:=true) (co:=[]) h T.length 0 (by omega)
 have h0:mdl v (T.take 0)=List.replicate v.toNat false:=by
  refine List.ext_getElem (by simp[bNt]) fun j h1 h2=>?_
  simp[mdl]
 rw[h0,show((0:Nat):Int)=0 from rfl]at g
 rw[bA0.eq,ce,if_neg (by omega),bPp (by omega) (by omega),Option.bind_some,if_pos rfl,g]
end
theorem bAh.loop1{v b:Int}{A:List Int}(hA:okA v A []){L0:List (List Int)}{b0:Bool}{b1:Int}{o2:List Bool}{o3:List Int}{o4:List (List Int)}(hlim:L0.length+2^v.toNat<=20000):∀(n:Nat) {t s:List Int} {log:List (List Int)},InvA v A L0 t s log->meas v t s<n->(log.length:Int)<=b ->
  bAh.l1 b b0 b1 v A v false (log.length:Int) o2 o3 o4 (allL v.toNat) (L0++log) t s [] [] log=some (ansC v b (solA v A n (L0++log) t s log))
 |0,t,s,log,h,hn,hb=>by omega
 |n+1,t,s,log,h,hn,hb=>by
  have hv:=h.a.vars
  have hsh:=h.a.short
  have hAs:=hA.short
  have hP:=h.prop.1
  have htop:log.length+1<=2^v.toNat:=by have:=h.mes;have:=bS9 h.a;omega
  have hll:(L0++log).length<20000:=by rw[List.length_append];omega
  have hlog:log.length<=20000:=by rw[List.length_append]at hll;omega
  have ht64:∀l∈t,in64 l:=fun l hl=>by have:=h.a.lits l hl;omega
  have hr:∀c∈L0++log,c.length<=140737488351232/\∀x∈c,in64 x:=fun c hc=>⟨by have:=(h.ok c hc).len hv;omega,fun x hx=>bVq hv ((h.ok c hc).1 x hx)⟩
  have hrun:runC v t s (L0++log)=((v,(bAk (L0++log) (v+1).toNat t).1,s),(bAk (L0++log) (v+1).toNat t).2,0):=by
   unfold runC
   rw[if_pos h.a,if_neg (by omega),if_pos h.ok]
  rw[bAh.l1_eq,bNk (by omega) (by omega) ht64 (by omega) hr,Option.bind_some,hrun]
  dsimp only
  rw[cn,if_pos rfl,cd]
  unfold solA
  by_cases hat:0<=(bAk (L0++log) (v+1).toNat t).2
  .rw[if_pos hat,if_pos hat]
   obtain⟨f1,f2,f3⟩:=h.fail hat rfl
   have hcf:=h.conf hat
   by_cases hc:lrnC v (L0++log) (decs (bAk (L0++log) (v+1).toNat t).1 s)=[]
   .rw[bNh (t':=[]) (s':=[]) hP.a h.ok hll hlog ⟨by omega,by omega⟩ hcf rfl f1 (fun hne=>absurd hc hne),if_pos hc,if_pos hc,Option.bind_some]
    dsimp only
    rw[ce,if_pos rfl,cd,if_neg (by omega),cn,if_pos rfl,cnot,cf]
    unfold ansC ansR
    rw[if_pos hb]
    rfl
   .obtain⟨t',s',e1,e2,e3⟩:=f3 hc
    rw[bNh hP.a h.ok hll hlog ⟨by omega,by omega⟩ hcf rfl f1 (fun _=>e1),if_neg hc,if_neg hc,Option.bind_some,e1]
    dsimp only
    rw[ce,if_pos rfl,cd]
    by_cases hov:(log.length:Int)+1>b
    .rw[if_pos hov,cn,if_neg (by omega)]
     unfold ansC
     have:=bPe (v:=v) (A:=A) n (L0++log++[lrnC v (L0++log) (decs (bAk (L0++log) (v+1).toNat t).1 s)]) t' s' (log++[lrnC v (L0++log) (decs (bAk (L0++log) (v+1).toNat t).1 s)])
     rw[List.length_append (bs:=[_]),List.length_singleton]at this
     rw[if_neg (by omega)]
     rfl
    .rw[if_neg hov,cn,if_pos rfl,cnot,ct]
     have:=bAh.loop1 (b:=b) (b0:=b0) (b1:=b1) (o2:=o2) (o3:=o3) (o4:=o4) hA hlim n e2 (by omega) (by rw[List.length_append,List.length_singleton];omega)
     rw[<-List.append_assoc,List.length_append (bs:=[_]),List.length_singleton,Int.natCast_add]at this
     exact this
  .rw[if_neg hat,if_neg hat]
   cases hw:bM3 A (bAk (L0++log) (v+1).toNat t).1 with
   |some l=>
    obtain⟨w1,w2⟩:=bV7 hw
    dsimp only
    by_cases h0:isS (bAk (L0++log) (v+1).toNat t).1 l=0
    .rw[if_pos h0,bY3 hP.a hA.lits (by omega) hw h0,Option.bind_some]
     have hcf:=h.under hA rfl w1 h0
     dsimp only
     rw[cd,if_pos (by omega),bV1 hA h.ok hll hlog hcf,Option.bind_some]
     dsimp only
     rw[cn,if_pos rfl]
     unfold ansC ansR
     rw[if_pos hb]
     rfl
    .rw[if_neg h0,bY5 hP.a hA.lits (by omega) hw h0,Option.bind_some]
     have h2:isS (bAk (L0++log) (v+1).toNat t).1 l=2:=by rcases bDh (bAk (L0++log) (v+1).toNat t).1 l with h|h|h<;>omega
     obtain⟨e1,e2⟩:=h.choose rfl (hA.lits l w1) h2 (.inl w1)
     dsimp only
     rw[cd,if_neg (by omega)]
     exact bAh.loop1 hA hlim n e1 (by omega) hb
   |none=>
    have hall:=bV8 hP.a hw
    dsimp only
    by_cases hl:lf v (bAk (L0++log) (v+1).toNat t).1=0
    .rw[if_pos hl,bY4 hP.a hA.lits (by omega) hw hl,Option.bind_some]
     dsimp only
     rw[cd,if_pos (by omega),bV2 hP.a,Option.bind_some]
     dsimp only
     rw[cn,if_pos rfl]
     unfold ansC ansR
     rw[if_pos hb]
     rfl
    .rw[if_neg hl,bY2 hP.a hA.lits (by omega) hw hl,Option.bind_some]
     obtain⟨x1,x2,x3,x4⟩:=(bNv (v:=v) (by omega) (bAk (L0++log) (v+1).toNat t).1).resolve_left fun h=>hl h.1
     have hnone:isS (bAk (L0++log) (v+1).toNat t).1 (2*lf v (bAk (L0++log) (v+1).toNat t).1+1)=2:=by
      rw[bGe]at x3 ⊢
      intro a ha he
      exact x3 a ha (by omega)
     obtain⟨e1,e2⟩:=h.choose rfl (x:=2*lf v (bAk (L0++log) (v+1).toNat t).1+1) (by omega) hnone (.inr ⟨_,rfl,x1,x2,x4,hall⟩)
     dsimp only
     rw[cd,if_neg (by omega)]
     exact bAh.loop1 hA hlim n e1 (by omega) hb
theorem bAh.loop0{v b:Int}(hv:okV v){b0 b1_3:Bool}{b0_1 b1 b1_2 b1_4:Int}{b1_1:List Int}{o2 o9:List Bool}{o3 o7 o8 o10:List Int}{o4 o6 o11:List (List Int)}:∀(n k:Nat),(k:Int)+n=v ->
  bAh.l0 v b ((k+1:Nat):Int) b0 b0_1 b1 b1_1 b1_2 b1_3 b1_4 o2 o3 o4 (allL k) o6 o7 o8 o9 o10 o11=bAh.l1 b b0 b0_1 b1 b1_1 b1_2 b1_3 b1_4 o2 o3 o4 (allL v.toNat) o6 o7 o8 o9 o10 o11
 |0,k,hk=>by
  have e:v.toNat=k:=by omega
  rw[bAh.l0_eq,cd,if_neg (by omega),e]
 |n+1,k,hk=>by
  have hl:((allL k).length:Int)=k:=by rw[bM2]
  rw[bAh.l0_eq,cd,if_pos (by omega),bCi (by simp;omega),Option.bind_some,cJd (by omega),<-bAh.loop0 hv n (k+1) (by omega),cBk]
  rfl
theorem assume_solved_eq{v b:Int}{A:List Int}(hA:okA v A [])(hb:0<=b/\b<=100000){L:List (List Int)}(hL:okL v L)(hlim:L.length+2^v.toNat<=20000):bAh v L A b=some (ansC v b (solAR v A L)):=by
 have hv:=hA.vars
 have hN:L.length<=20000:=Nat.le_trans (Nat.le_add_right _ _) hlim
 have g0:=bAh.loop0 (b:=b) (b0:=false) (b0_1:=0) (b1:=v) (b1_1:=A) (b1_2:=v) (b1_3:=false) (b1_4:=0) (o2:=[]) (o3:=[]) (o4:=[]) (o6:=L) (o7:=[]) (o8:=[]) (o9:=[]) (o10:=[]) (o11:=[]) hv v.toNat 0 (by omega)
 have g1:=bAh.loop1 (b:=b) hA (b0:=false) (b1:=0) (o2:=[]) (o3:=[]) (o4:=[]) hlim (meas v [] []+1) (invA0 hv hL) (Nat.lt_succ_self _) (by simpa using hb.1)
 rw[List.append_nil]at g1
 rw[bAh.eq,bKh (by omega),Option.bind_some]
 exact g0.trans g1
theorem bBn.loop{v:Int}{L:List (List Int)}{A:List Int}(hn:A.length<=100000):∀(n i:Nat),i+n=A.length ->
  bBn.l0 v L A (A.length:Int) (i:Int) (bHk (A.take i))=bBn.l0 v L A (A.length:Int) (A.length:Int) (bHk A)
 |0,i,hi=>by
  have:i=A.length:=by omega
  subst this;rw[List.take_length]
 |n+1,i,hi=>by
  have hlt:i<A.length:=by omega
  have hw:IntKind.wrap .i64 ((i:Int)+1)=((i+1:Nat):Int):=by rw[wr]<;>omega
  have hl:(bHk (A.take i)).length<=100000:=by unfold bHk;rw[List.length_map,List.length_take];omega
  rw[<-bBn.loop hn n (i+1) (by omega),bBn.l0_eq,cd,if_pos (by omega),bCq hlt,Option.bind_some,bCi (by simp only[List.length_singleton];omega),Option.bind_some,hw,List.take_add_one,List.getElem?_eq_getElem hlt]
  unfold bHk
  rw[List.map_append]
  rfl
theorem assume_none_eq{v:Int}(hv:okV v){L:List (List Int)}{A:List Int}(hL:okL v L)(hA:∀a∈A,isLit v a)(hlim:A.length+L.length+2^v.toNat<=20000)(hbig:2^v.toNat<=100001):bBn v L A=some (noneC v L A,0):=by
 have hAL:A.length+L.length<=20000:=Nat.le_trans (Nat.le_add_right _ _) hlim
 have hL2:L.length+2^v.toNat<=20000:=Nat.le_trans (by rw[Nat.add_assoc];exact Nat.le_add_left _ _) hlim
 have h2v:2^v.toNat<=20000:=Nat.le_trans (Nat.le_add_left _ _) hlim
 have g:=bBn.loop (v:=v) (L:=L) (A:=A) (by omega) A.length 0 (by omega)
 rw[show((0:Nat):Int)=0 from rfl,List.take_zero]at g
 have hul:(bHk A).length=A.length:=by simp[bHk]
 have hok:=okL_asm hL hA
 have hb:=(solR_ok hv hok).bnd
 rw[bBn.eq]
 refine Eq.trans g ?_
 rw[bBn.l0_eq,cd,if_neg (by omega),bCi (by omega),Option.bind_some,solve_Run_eq hv (by omega) hok (by rw[List.length_append,hul];exact hlim),Option.bind_some]
 unfold ansC
 rw[if_pos (by omega)]
 dsimp only
 rw[ce,if_pos rfl]
 rfl
theorem bBo.loop{v:Int}(hv:okV v){L:List (List Int)}{A:List Int}(hA:okA v A [])(hL:okL v L)(hlim:A.length+L.length+2^v.toNat<=20000)(hbig:2^v.toNat<=100001):∀(n i:Nat) {o:List Int},i+n=A.length->o.Sublist A->(∀x∈A.drop i,x∈o) ->
  bBo.l0 v L A (A.length:Int) (i:Int) o=some (coreC v L (A.drop i) o,0)
 |0,i,o,hi,ho,hm=>by
  rw[bBo.l0_eq,cd,if_neg (by omega),List.drop_of_length_le (by omega)]
  rfl
 |n+1,i,o,hi,ho,hm=>by
  have hAL:A.length+L.length<=20000:=Nat.le_trans (Nat.le_add_right _ _) hlim
  have hlt:i<A.length:=by omega
  have hs:=hA.short
  have hol:=ho.length_le
  have hw:IntKind.wrap .i64 ((i:Int)+1)=((i+1:Nat):Int):=by rw[wr]<;>omega
  rw[drop_cons hlt]at hm ⊢
  have hd:A[i]∈o:=hm _ (List.mem_cons_self ..)
  obtain⟨k,e1,e2,e3⟩:=bF0.found (s:=o) (x:=A[i]) (by omega) o.length 0 (by omega) (by rw[List.drop_zero];exact hd)
  rw[show((0:Nat):Int)=0 from rfl]at e1
  rw[List.take_zero,List.drop_zero,List.nil_append]at e3
  have hwk:IntKind.wrap .i64 ((k:Int)+1)=((k+1:Nat):Int):=by rw[wr]<;>omega
  have hcut:cutl o (k:Int) ((k+1:Nat):Int)=some (rm A[i] o):=by
   unfold cutl LIM
   rw[if_pos ⟨by omega,by omega,by omega,by omega⟩,Int.toNat_natCast,Int.toNat_natCast,e3]
  have hsub:(rm A[i] o).Sublist A:=(cDr _ o).trans ho
  have hsl:=hsub.length_le
  have hnd:=hA.nodup
  rw[<-List.take_append_drop i A,List.nodup_append,drop_cons hlt,List.nodup_cons]at hnd
  rw[bBo.l0_eq,cd,if_pos (by omega),bCq hlt,Option.bind_some,bAj.eq,e1,Option.bind_some,bKh (by omega),Option.bind_some,hwk,hcut,Option.bind_some,assume_none_eq hv hL (fun a ha=>hA.lits a (hsub.subset ha)) (Nat.le_trans (Nat.add_le_add_right (Nat.add_le_add_right hsl _) _) hlim) hbig,Option.bind_some,hw]
  dsimp only
  rw[cn,if_pos rfl]
  unfold coreC
  cases hcf:noneC v L (rm A[i] o) with
  |true=>
   rw[ct]
   exact bBo.loop hv hA hL hlim hbig n (i+1) (by omega) hsub (fun x hx=>cJr (hm x (List.mem_cons_of_mem _ hx)) (fun e=>hnd.2.1.1 (e▸hx)))
  |false=>
   rw[cf]
   exact bBo.loop hv hA hL hlim hbig n (i+1) (by omega) ho (fun x hx=>hm x (List.mem_cons_of_mem _ hx))
theorem assume_core_eq{v:Int}{L:List (List Int)}{A:List Int}(hA:okA v A [])(hL:okL v L)(hlim:A.length+L.length+2^v.toNat<=20000)(hbig:2^v.toNat<=100001):bBo v L A=some (coreC v L A A,0):=by
 have hAL:A.length+L.length<=20000:=Nat.le_trans (Nat.le_add_right _ _) hlim
 have hL2:L.length+2^v.toNat<=20000:=Nat.le_trans (by rw[Nat.add_assoc];exact Nat.le_add_left _ _) hlim
 have h2v:2^v.toNat<=20000:=Nat.le_trans (Nat.le_add_left _ _) hlim
 have g:=bBo.loop hA.vars hA hL hlim hbig A.length 0 (o:=A) (by omega) (List.Sublist.refl _) (fun x hx=>by rwa [List.drop_zero]at hx)
 rw[show((0:Nat):Int)=0 from rfl,List.drop_zero]at g
 rw[bBo.eq,bKh (by omega),Option.bind_some,g]
section
variable {v b:Int} {A:List Int} {L:List (List Int)}
theorem cJs(hv:okV v)(hL:okL v L):∀c∈L,c.length<=140737488351232/\∀x∈c,in64 x:=fun c hc=>⟨by have:=(hL c hc).len hv;omega,fun x hx=>bVq hv ((hL c hc).1 x hx)⟩
theorem bVd(hA:okA v A [])(hb:0<=b/\b<=100000)(hL:okL v L)(hn:L.length<=20000):bBe v L A b=some 0:=by
 have hv:=hA.vars
 have hs:=hA.short
 rw[bMk (by omega) (cJs hv hL) (by omega) (fun x hx=>bVq hv (hA.lits x hx)),if_neg (by omega),if_neg (by omega),if_pos ⟨hL,hA⟩]
theorem assume_Run_eq(hA:okA v A [])(hb:0<=b/\b<=100000)(hL:okL v L)(hlim:A.length+L.length+2^v.toNat<=20000):bGy v L A b=some (runA v b A L):=by
 have hAL:A.length+L.length<=20000:=Nat.le_trans (Nat.le_add_right _ _) hlim
 have hL2:L.length+2^v.toNat<=20000:=Nat.le_trans (by rw[Nat.add_assoc];exact Nat.le_add_left _ _) hlim
 have h2v:2^v.toNat<=20000:=Nat.le_trans (Nat.le_add_left _ _) hlim
 have hR:=cMg hA hL
 rw[bGy.eq,bVd hA hb hL (by omega),Option.bind_some,cn,if_pos rfl,assume_solved_eq hA hb hL hL2,Option.bind_some]
 unfold ansC runA
 by_cases hc:((solAR v A L).2.2.2:Int)<=b
 .rw[if_pos hc,if_pos hc]
  dsimp only
  rw[cn,if_pos rfl]
  unfold ansR ansA
  cases hs:(solAR v A L).1 with
  |true=>rfl
  |false=>
   rw[cf,assume_core_eq hA hL hlim (by omega),Option.bind_some]
   rfl
 .rw[if_neg hc,if_neg hc]
  dsimp only
  rw[cn,if_neg (by omega)]
theorem assume_run(hA:okA v A [])(h12:v<=12)(hL:okL v L)(hn:A.length+L.length<=10000)(hb:((solAR v A L).2.2.2:Int)<=b/\b<=100000):bGy v L A b=some (ansA v A L,0):=by
 have hp:=small_pow hA.vars.1 h12
 rw[assume_Run_eq hA ⟨by omega,hb.2⟩ hL (by omega)]
 unfold runA
 rw[if_pos hb.1]
end
end
section
structure bGi(I:Int)(Ls As:List (Int×Int))(Bs Cs:List Int):Prop where
 i:in64 I
 ls:Ls.length<=140737488351232/\∀x∈Ls,in64 x.1/\in64 x.2
 as_:As.length<=140737488351232/\∀x∈As,in64 x.1/\in64 x.2
 bs:Bs.length<=140737488351232/\∀x∈Bs,in64 x
 cs:Cs.length<=140737488351232/\∀x∈Cs,in64 x
abbrev litN(n l:Int):Prop:=0<=l/\l/2<=n
abbrev latN(n:Int)(x:Int×Int):Prop:=litN n x.1/\0<=x.2/\x.2<=2
def okG:Int->List (Int×Int)->Bool
 |_,[]=>true
 |n,x::r=>decide (0<=x.2)&&decide (x.2<=x.1)&&decide (x.1/2<n)&&okG (n+1) r
def few(I:Int)(Ls As:List (Int×Int))(Bs Cs:List Int):Prop:=I<=1000/\I+Ls.length+As.length<=1000/\Bs.length<=100/\Cs.length<=100
instance (I:Int)(Ls As:List (Int×Int))(Bs Cs:List Int):Decidable (few I Ls As Bs Cs):=by unfold few;infer_instance
def size(I:Int)(Ls As:List (Int×Int)):Int:=I+Ls.length+As.length
def cM6(I:Int)(Ls As:List (Int×Int))(Bs Cs:List Int):Prop:=
 (∀l∈Bs,litN (size I Ls As) l)/\(∀l∈Cs,litN (size I Ls As) l)/\(∀x∈Ls,latN (size I Ls As) x)/\okG (1+I+Ls.length) As=true
instance (I:Int)(Ls As:List (Int×Int))(Bs Cs:List Int):Decidable (cM6 I Ls As Bs Cs):=by unfold cM6;infer_instance
def bCc(I:Int)(Ls As:List (Int×Int))(Bs Cs:List Int):Int:=if I<0 then 8 else if few I Ls As Bs Cs then(if cM6 I Ls As Bs Cs then 0 else 8) else 4
section
variable {I:Int} {Ls As:List (Int×Int)} {Bs Cs:List Int}
theorem cC6{α:Type}{l:List α}{p:α->Bool}{q:α->Prop}(h:∀x∈l,(p x=false↔q x)):l.any p=false↔∀x∈l,q x:=by
 rw[List.any_eq_false]
 exact⟨fun g x hx=>(h x hx).1 (by simpa using g x hx),fun g x hx=>by simpa using(h x hx).2 (g x hx)⟩
theorem shr1(x:Int):bshr .i64 x 1=x/2:=by
 unfold bshr
 rw[show min (Int.toNat 1) IntKind.i64.bits=1 from rfl,Int.fdiv_eq_ediv_of_nonneg _ (by decide)]
 rfl
theorem cCa{n x:Int}:outF (n+1) x=false↔litN n x:=by
 unfold outF
 rw[shr1,Bool.or_eq_false_iff,decide_eq_false_iff_not,decide_eq_false_iff_not]
 omega
theorem cHz{n:Int}{x:Int×Int}:bN4 (n+1) x=false↔latN n x:=by
 unfold bN4
 rw[Bool.or_eq_false_iff,Bool.or_eq_false_iff,cCa,decide_eq_false_iff_not,decide_eq_false_iff_not]
 omega
theorem bBm.loop{s0 s1 s3:Int}(h:As.length<=140737488351232/\∀x∈As,in64 x.1/\in64 x.2){n:Int}(hn:0<=n/\n<=1000000)(hA:n+As.length<=1000000):∀(m i:Nat),i+m=As.length ->
  bBm.l0 As (As.length:Int) (i:Int) [s0,s1,n,s3]=some (if okG (n+i) (As.drop i)=true then 0 else 8)
 |0,i,hi=>by
  rw[bBm.l0_eq,cd,if_neg (by omega),List.drop_of_length_le (by omega)]
  rfl
 |m+1,i,hi=>by
  have hlt:i<As.length:=by omega
  obtain⟨h1,h2⟩:=h.2 _ (List.getElem_mem hlt)
  have hw:IntKind.wrap .i64 ((i:Int)+1)=((i+1:Nat):Int):=by rw[wr]<;>omega
  have hw2:IntKind.wrap .i64 (2*IntKind.wrap .i64 (n+(i:Int)))=2*(n+(i:Int)):=by rw[wr (x:=n+(i:Int)) (by omega) (by omega),wr (by omega) (by omega)]
  rw[bBm.l0_eq,cd,if_pos (by omega),bCq hlt,Option.bind_some,cd,drop_cons hlt]
  unfold okG
  by_cases c1:(As[i]).2<0
  .rw[if_pos c1,decide_eq_false (by omega:¬0<=(As[i]).2)];rfl
  rw[if_neg c1,cd,decide_eq_true (by omega:0<=(As[i]).2),Bool.true_and]
  by_cases c2:(As[i]).1<(As[i]).2
  .rw[if_pos c2,decide_eq_false (by omega:¬(As[i]).2<=(As[i]).1)];rfl
  rw[if_neg c2,decide_eq_true (by omega:(As[i]).2<=(As[i]).1),Bool.true_and,show geti [s0,s1,n,s3] 2=some n from rfl,Option.bind_some,show([s0,s1,n,s3]:List Int)[Int.toNat 2]?=some n from rfl,Option.bind_some,hw2,cd]
  by_cases c3:(As[i]).1>=2*(n+(i:Int))
  .rw[if_pos c3,decide_eq_false (by omega:¬(As[i]).1/2<n+(i:Int))];rfl
  rw[if_neg c3,decide_eq_true (by omega:(As[i]).1/2<n+(i:Int)),Bool.true_and,hw,bBm.loop h hn hA m (i+1) (by omega),show n+((i+1:Nat):Int)=n+(i:Int)+1 from by omega]
theorem bG2(h:bGi I Ls As Bs Cs):bBm I Ls As Bs Cs=some (bCc I Ls As Bs Cs):=by
 have h1:=h.ls.1
 have h2:=h.as_.1
 have h3:=h.bs.1
 have h4:=h.cs.1
 unfold bCc
 rw[bBm.eq,cd]
 by_cases c1:I<0
 .rw[if_pos c1,if_pos c1]
 rw[if_neg c1,if_neg c1,cd]
 by_cases c2:I>1000
 .rw[if_pos c2,if_neg (fun g=>by have:=g.1;omega)]
 have w1:IntKind.wrap .i64 (1+I)=1+I:=by rw[wr]<;>omega
 have w2:IntKind.wrap .i64 (1+I+(Ls.length:Int))=1+I+(Ls.length:Int):=by rw[wr]<;>omega
 have w3:IntKind.wrap .i64 (1+I+(Ls.length:Int)+(As.length:Int))=size I Ls As+1:=by unfold size;rw[wr]<;>omega
 have w4:IntKind.wrap .i64 (size I Ls As+1-1)=size I Ls As:=by unfold size;rw[wr]<;>omega
 rw[if_neg c2,w1,w2,w3,show geti [1,1+I,1+I+(Ls.length:Int),size I Ls As+1] 3=some (size I Ls As+1) from rfl,Option.bind_some,w4,cd]
 by_cases c3:size I Ls As>1000
 .rw[if_pos c3,if_neg (fun g=>by have:=g.2.1;unfold size at c3;omega)]
 rw[if_neg c3,cd]
 by_cases c4:(if(Bs.length:Int)<(Cs.length:Int) then(Cs.length:Int) else(Bs.length:Int))>100
 .rw[if_pos c4,if_neg (fun g=>by have:=g.2.2;split at c4<;>omega)]
 have c4':Bs.length<=100/\Cs.length<=100:=by split at c4<;>omega
 have c3':I+Ls.length+As.length<=1000:=by unfold size at c3;omega
 have hf:few I Ls As Bs Cs:=⟨by omega,by unfold size at c3;omega,c4'.1,c4'.2⟩
 rw[if_neg c4,if_pos hf,cd,if_pos (by unfold LIM;omega)]
 have e1:Bs.any (outF (size I Ls As+1))=false↔∀l∈Bs,litN (size I Ls As) l:=cC6 fun x _=>cCa
 have e2:Cs.any (outF (size I Ls As+1))=false↔∀l∈Cs,litN (size I Ls As) l:=cC6 fun x _=>cCa
 have e3:Ls.any (bN4 (size I Ls As+1))=false↔∀l∈Ls,latN (size I Ls As) l:=cC6 fun x _=>cHz
 cases q1:Bs.any (outF (size I Ls As+1)) with
 |true=>rw[ct,if_neg (fun g=>by rw[e1.2 g.1]at q1;cases q1)]
 |false=>
  rw[cf,cd,if_pos (by unfold LIM;omega)]
  cases q2:Cs.any (outF (size I Ls As+1)) with
  |true=>rw[ct,if_neg (fun g=>by rw[e2.2 g.2.1]at q2;cases q2)]
  |false=>
   rw[cf,cd,if_pos (by unfold LIM;omega)]
   cases q3:Ls.any (bN4 (size I Ls As+1)) with
   |true=>rw[ct,if_neg (fun g=>by rw[e3.2 g.2.2.1]at q3;cases q3)]
   |false=>
    have:=bBm.loop (s0:=1) (s1:=1+I) (s3:=size I Ls As+1) h.as_ (n:=1+I+(Ls.length:Int)) (by unfold size at c3;omega) (by unfold size at c3;omega) As.length 0 (by omega)
    rw[show((0:Nat):Int)=0 from rfl,List.drop_zero,Int.add_zero]at this
    rw[cf,this]
    by_cases q4:okG (1+I+(Ls.length:Int)) As=true
    .rw[if_pos q4,if_pos ⟨e1.1 q1,e2.1 q2,e3.1 q3,q4⟩]
    .rw[if_neg q4,if_neg (fun g=>q4 g.2.2.2)]
theorem bBh(h:bCc I Ls As Bs Cs=0):0<=I/\few I Ls As Bs Cs/\cM6 I Ls As Bs Cs:=by
 unfold bCc at h
 split at h
 .omega
 .split at h
  .split at h
   .exact⟨by omega,by assumption,by assumption⟩
   .omega
  .omega
theorem bHu(h:bGi I Ls As Bs Cs):bGw I Ls As Bs Cs=some (if bCc I Ls As Bs Cs=0 then(size I Ls As,0) else(0,bCc I Ls As Bs Cs)):=by
 rw[bGw.eq,bG2 h,Option.bind_some,cn]
 by_cases c:bCc I Ls As Bs Cs=0
 .obtain⟨k1,k2,_⟩:=bBh c
  obtain⟨k2,k3,_⟩:=k2
  have w1:IntKind.wrap .i64 (1+I)=1+I:=by rw[wr]<;>omega
  have w2:IntKind.wrap .i64 (1+I+(Ls.length:Int))=1+I+(Ls.length:Int):=by rw[wr]<;>omega
  have w3:IntKind.wrap .i64 (1+I+(Ls.length:Int)+(As.length:Int))=size I Ls As+1:=by unfold size;rw[wr]<;>omega
  have w4:IntKind.wrap .i64 (size I Ls As+1-1)=size I Ls As:=by unfold size;rw[wr]<;>omega
  rw[if_pos c,if_pos c,w1,w2,w3,show geti [1,1+I,1+I+(Ls.length:Int),size I Ls As+1] 3=some (size I Ls As+1) from rfl,Option.bind_some,w4]
 .rw[if_neg c,if_neg c]
theorem td2{l:Int}(h0:0<=l)(h:in64 l):IntKind.wrap .i64 (Int.tdiv l 2)=l/2:=by rw[td h0 (by unfold in64 at h;omega)]
end
end
section
theorem bZn{n:Nat}(h:(n:Int)<=9223372036854775806):(BitVec.ofInt 64 (n:Int)).toNat=n:=by
 rw[BitVec.toNat_ofInt];omega
theorem cFw{l:Int}(h:0<=l)(h2:l<=9223372036854775806):band .i64 l 1=l%2:=by
 unfold band
 obtain⟨n,rfl⟩:=Int.eq_ofNat_of_zero_le h
 have hx:((BitVec.ofInt 64 (n:Int))&&&(BitVec.ofInt 64 1)).toNat=n%2:=by
  rw[BitVec.toNat_and,bZn h2,show(BitVec.ofInt 64 1).toNat=1 by decide,Nat.and_one_is_mod]
 show IntKind.wrap .i64 (((BitVec.ofInt 64 (n:Int))&&&(BitVec.ofInt 64 1)).toNat:Int)=_
 rw[hx,wr]<;>omega
theorem cLf{l:Int}(h:0<=l)(h2:l<=9223372036854775806):bxor .i64 l 0=l:=by
 unfold bxor
 obtain⟨n,rfl⟩:=Int.eq_ofNat_of_zero_le h
 have hx:((BitVec.ofInt 64 (n:Int))^^^(BitVec.ofInt 64 0)).toNat=n:=by
  rw[BitVec.toNat_xor,bZn h2,show(BitVec.ofInt 64 0).toNat=0 by decide,Nat.xor_zero]
 show IntKind.wrap .i64 (((BitVec.ofInt 64 (n:Int))^^^(BitVec.ofInt 64 0)).toNat:Int)=_
 rw[hx,wr]<;>omega
def litR(row:List Int)(l:Int):Int:=row.getD (l/2).toNat 0+l%2
theorem bJ8{row:List Int}{l:Int}(hl:0<=l/\l<=1000000)(hi:(l/2).toNat<row.length){j:Int}(hj:row.getD (l/2).toNat 0=2*j)(hj2:0<=j/\j<=1000000):bFs row l=some (litR row l):=by
 have hg:geti row (l/2)=some (2*j):=by
  rw[show l/2=(((l/2).toNat:Nat):Int) from by omega,bCq hi]
  rw[List.getD_eq_getElem?_getD,List.getElem?_eq_getElem hi,Option.getD_some]at hj
  rw[hj]
 rw[bFs.eq,td hl.1 (by omega),hg,Option.bind_some,cFw hl.1 (by omega)]
 unfold litR
 rw[hj]
 rcases(by omega:l%2=0\/l%2=1) with e|e
 .rw[e,cLf (by omega) (by omega),Int.add_zero]
 .rw[e,bG3 (by omega) (by omega)]
  unfold neg
  rw[if_pos (by omega)]
theorem cD1{row:List Int}{l j:Int}(hj:row.getD (l/2).toNat 0=2*j):litR row (neg l)=neg (litR row l):=by
 unfold litR
 rw[bCo,hj]
 unfold neg
 split<;>split<;>omega
def ins1(x:Int):List Int->List Int
 |[]=>[x]
 |y::r=>if x<y then x::y::r else if x=y then y::r else y::ins1 x r
def nrm(l:List Int):List Int:=l.foldr ins1 []
theorem bYf{x z:Int}:∀{S:List Int},z∈ins1 x S↔z=x\/z∈S
 |[]=>by simp[ins1]
 |y::r=>by
  unfold ins1
  split
  .rw[List.mem_cons]
  .split
   .rename_i e
    subst e
    rw[List.mem_cons]
    exact⟨.inr,fun h=>h.elim .inl id⟩
   .rw[List.mem_cons,bYf (S:=r),List.mem_cons]
    constructor
    .rintro(h|h|h)
     .exact .inr (.inl h)
     .exact .inl h
     .exact .inr (.inr h)
    .rintro(h|h|h)
     .exact .inr (.inl h)
     .exact .inl h
     .exact .inr (.inr h)
theorem bTo{x:Int}:∀{S:List Int},S.Pairwise (· < ·)->(ins1 x S).Pairwise (· < ·)
 |[],_=>by simp[ins1]
 |y::r,h=>by
  have h':=h
  rw[List.pairwise_cons]at h
  unfold ins1
  split
  .rename_i hlt
   rw[List.pairwise_cons]
   refine⟨fun z hz=>?_,h'⟩
   rcases List.mem_cons.1 hz with rfl|hz
   .exact hlt
   .have:=h.1 z hz;omega
  .split
   .exact h'
   .rw[List.pairwise_cons]
    refine⟨fun z hz=>?_,bTo h.2⟩
    rcases bYf.1 hz with rfl|hz
    .omega
    .exact h.1 z hz
theorem bMv:∀(l:List Int),(nrm l).Pairwise (· < ·)/\∀z,z∈nrm l↔z∈l
 |[]=>⟨List.Pairwise.nil,fun z=>Iff.rfl⟩
 |x::r=>by
  obtain⟨h1,h2⟩:=bMv r
  refine⟨bTo h1,fun z=>?_⟩
  show z∈ins1 x (nrm r)↔_
  rw[bYf,h2,List.mem_cons]
theorem cCw(l:List Int):Lib.compact (bK2 l)=nrm l:=by
 obtain⟨p1,p2⟩:=bGp l
 obtain⟨c1,c2⟩:=cA7 p2
 obtain⟨n1,n2⟩:=bMv l
 exact bPb c1 n1 fun y=>by rw[c2,p1.mem_iff,n2]
def bQf(l:List Int):Bool:=l.any fun x=>l.any fun y=>decide (x≠y/\x/2=y/2)
theorem bG7{l:List Int}:bQf l=true↔∃x∈l,∃y∈l,x≠y/\x/2=y/2:=by
 unfold bQf
 rw[List.any_eq_true]
 constructor
 .rintro⟨x,hx,h⟩
  rw[List.any_eq_true]at h
  obtain⟨y,hy,h⟩:=h
  exact⟨x,hx,y,hy,by simpa using h⟩
 .rintro⟨x,hx,y,hy,h⟩
  exact⟨x,hx,List.any_eq_true.2 ⟨y,hy,by simpa using h⟩⟩
theorem cLu{C:List Int}(hC:C.Pairwise (· < ·)):(∀j,j<C.length->0<=j->0<j->C.getD j 0/2≠C.getD (j-1) 0/2)↔bQf C=false:=by
 have at_:∀{j},(hj:j<C.length)->C.getD j 0=C[j]:=fun hj=>by rw[List.getD_eq_getElem?_getD,List.getElem?_eq_getElem hj,Option.getD_some]
 have lt:∀{i j:Nat} (hi:i<C.length) (hj:j<C.length),i<j->C[i]<C[j]:=fun hi hj h=>List.pairwise_iff_getElem.1 hC _ _ hi hj h
 constructor
 .intro h
  rw[<-Bool.not_eq_true]
  intro ht
  have main:∀x∈C,∀y∈C,x<y->x/2=y/2->False:=by
   intro x hx y hy hlt he
   obtain⟨i,hi,rfl⟩:=List.getElem_of_mem hx
   obtain⟨j,hj,rfl⟩:=List.getElem_of_mem hy
   have hij:i<j:=by
    apply Classical.byContradiction
    intro hn
    rcases Nat.lt_or_ge j i with q|q
    .have:=lt hj hi q;omega
    .have:i=j:=by omega
     subst this;omega
   have hij2:i=j-1:=by
    apply Classical.byContradiction
    intro hn
    have h1:=lt hi (j:=j-1) (by omega) (by omega)
    have h2:=lt (i:=j-1) (by omega) hj (by omega)
    omega
   have:=h j hj (by omega) (by omega)
   rw[at_ hj,at_ (by omega)]at this
   subst hij2
   exact this he.symm
  obtain⟨x,hx,y,hy,hne,he⟩:=bG7.1 ht
  rcases Int.lt_or_gt_of_ne hne with q|q
  .exact main x hx y hy q he
  .exact main y hy x hx q he.symm
 .intro h j hj _ h0 he
  rw[at_ hj,at_ (by omega)]at he
  have:=bG7.2 ⟨_,List.getElem_mem hj,_,List.getElem_mem (show j-1<C.length by omega),by have:=lt (i:=j-1) (by omega) hj (by omega);omega,he⟩
  rw[h]at this;cases this
theorem cBs{a b:List Int}(h:∀z,z∈a↔z∈b):bQf a=bQf b:=by
 rw[Bool.eq_iff_iff,bG7,bG7]
 constructor
 .rintro⟨x,hx,y,hy,e⟩;exact⟨x,(h x).1 hx,y,(h y).1 hy,e⟩
 .rintro⟨x,hx,y,hy,e⟩;exact⟨x,(h x).2 hx,y,(h y).2 hy,e⟩
theorem bVy{v:Int}(hv:okV v){l:List Int}(hl:∀x∈l,isLit v x)(hn:l.length<=1000000):bAz v l=some (if bQf l=true then([],true,0) else(nrm l,false,0)):=by
 obtain⟨p1,p2⟩:=bGp l
 obtain⟨n1,n2⟩:=bMv l
 have hcl:(Lib.compact (bK2 l)).length<=1000000:=by
  have:=bNy (bK2 l)
  rw[p1.length_eq]at this;omega
 have hv':=hv
 obtain⟨v1,v2⟩:=hv'
 have g0:=bAz.loop0 hv hl hn l.length 0 (by omega)
 rw[cCw]at g0 hcl
 have g1:=bAz.loop1 hcl (fun x hx=>by have:=hl x ((n2 x).1 hx);omega) (nrm l).length 0 (by omega)
 rw[show((0:Nat):Int)=0 from rfl]at g0 g1
 have e:bAz v l=bAz.l1 ((nrm l).length:Int) 0 (nrm l):=by
  rw[bAz.eq,cd,if_neg (by omega),cd,if_neg (by omega),g0]
 rw[e,g1,cBs (fun z=>(n2 z).symm)]
 by_cases hall:∀j,j<(nrm l).length->0<=j->0<j->(nrm l).getD j 0/2≠(nrm l).getD (j-1) 0/2
 .rw[if_pos hall,(cLu n1).1 hall,if_neg (by simp)]
 .rw[if_neg hall,if_pos (by rw[<-Bool.not_eq_false];exact fun h=>hall ((cLu n1).2 h))]
def big(ls:List Int):List Int:=ls.filter fun x=>decide (1<x)
def addC(cl:List (List Int))(ls:List Int):List (List Int):=if 1∈ls then cl else if bQf (big ls)=true then cl else cl++[nrm (big ls)]
theorem bBf.loop{v:Int}(hv:okV v){cl:List (List Int)}(hcl:cl.length<=100000){ls:List Int}(hl:∀x∈ls,0<=x/\x<=2*v+1)(hn:ls.length<=1000):∀(n i:Nat),i+n=ls.length->1∉ls.take i ->
  bBf.l0 v ls (ls.length:Int) (i:Int) cl (big (ls.take i))=some (addC cl ls)
 |0,i,hi,h1=>by
  rw[List.take_of_length_le (by omega)]at h1 ⊢
  have hb:∀x∈big ls,isLit v x:=fun x hx=>by
   obtain⟨h1,h2⟩:=List.mem_filter.1 hx
   have:=hl x h1
   have:1<x:=by simpa using h2
   exact⟨by omega,by omega⟩
  have hbn:(big ls).length<=ls.length:=List.length_filter_le _ _
  rw[bBf.l0_eq,cd,if_neg (by omega),bVy hv hb (by omega),Option.bind_some]
  unfold addC
  rw[if_neg h1]
  by_cases ht:bQf (big ls)=true
  .rw[if_pos ht,if_pos ht];rfl
  .rw[if_neg ht,if_neg ht]
   dsimp only
   rw[cn,if_pos rfl,cf,bCi (by simp;omega),Option.bind_some]
 |n+1,i,hi,h1=>by
  have hlt:i<ls.length:=by omega
  have hx:=hl _ (List.getElem_mem hlt)
  have hw:IntKind.wrap .i64 ((i:Int)+1)=((i+1:Nat):Int):=by rw[wr]<;>omega
  have hbn:(big (ls.take i)).length<=(ls.take i).length:=List.length_filter_le _ _
  rw[List.length_take]at hbn
  rw[bBf.l0_eq,cd,if_pos (by omega),bCq hlt,Option.bind_some,ce]
  by_cases e1:ls[i]=1
  .rw[if_pos e1]
   unfold addC
   rw[if_pos (e1▸List.getElem_mem hlt)]
  .have h1':1∉ls.take (i+1):=by
    rw[List.take_add_one,List.getElem?_eq_getElem hlt,List.mem_append,Option.toList_some,List.mem_singleton]
    rintro(h|h)
    .exact h1 h
    .exact e1 h.symm
   have ih:=bBf.loop hv hcl hl hn n (i+1) (by omega) h1'
   have hb:big (ls.take (i+1))=big (ls.take i)++if 1<ls[i] then[ls[i]] else[]:=by
    unfold big
    rw[List.take_add_one,List.getElem?_eq_getElem hlt,Option.toList_some,List.filter_append]
    congr 1
    by_cases h:1<ls[i]<;>simp[h]
   rw[if_neg e1,cd,hw,<-ih,hb]
   by_cases e2:ls[i]>1
   .rw[if_pos e2,if_pos e2,bCi (by simp;omega),Option.bind_some]
   .rw[if_neg e2,if_neg e2,List.append_nil]
theorem bJ9{v:Int}(hv:okV v){cl:List (List Int)}(hcl:cl.length<=100000){ls:List Int}(hl:∀x∈ls,0<=x/\x<=2*v+1)(hn:ls.length<=1000):bBf cl v ls=some (addC cl ls):=by
 have:=bBf.loop hv hcl hl hn ls.length 0 (by omega) (by simp)
 rw[bBf.eq]
 exact this
theorem bY9{cl:List (List Int)}{ls:List Int}:(addC cl ls).length<=cl.length+1:=by
 unfold addC
 split
 .omega
 .split
  .omega
  .simp
def setB(M:List Bool)(v:Int):List Bool:=M.set v.toNat true
theorem bDa{M:List Bool}{v:Int}:(setB M v).length=M.length:=List.length_set ..
theorem bGz{M:List Bool}{v:Int}(h:v.toNat<M.length){j:Nat}:(setB M v).getD j false=(decide (j=v.toNat)||M.getD j false):=by
 unfold setB
 rw[List.getD_eq_getElem?_getD,List.getElem?_set,List.getD_eq_getElem?_getD]
 by_cases e:v.toNat=j
 .subst e
  rw[if_pos rfl,if_pos h,decide_eq_true rfl];rfl
 .rw[if_neg e,decide_eq_false (fun q=>e q.symm),Bool.false_or]
def bTb(M:List Bool):List Int->List Bool
 |[]=>M
 |l::r=>bTb (setB M (l/2)) r
theorem bKs:∀{ls:List Int} {M:List Bool},(bTb M ls).length=M.length
 |[],M=>rfl
 |l::r,M=>by rw[bTb,bKs,bDa]
def bNx(f:Nat)(As:List (Int×Int)):Nat->List Bool->List Bool
 |0,M=>M
 |k+1,M=>bNx f As k (if M.getD (f+k) false=true then setB (setB M ((As.getD k (0,0)).1/2)) ((As.getD k (0,0)).2/2) else M)
theorem cA6{f:Nat}{As:List (Int×Int)}:∀{k:Nat} {M:List Bool},(bNx f As k M).length=M.length
 |0,M=>rfl
 |k+1,M=>by
  rw[bNx,cA6]
  split
  .rw[bDa,bDa]
  .rfl
def bLq(f:Nat)(As:List (Int×Int)):Prop:=∀k,k<As.length->0<=(As.getD k (0,0)).2/\(As.getD k (0,0)).2<=(As.getD k (0,0)).1/\(As.getD k (0,0)).1/2<(f:Int)+k
theorem cJ2:∀{As:List (Int×Int)} {n:Int},okG n As=true->∀k,k<As.length->0<=(As.getD k (0,0)).2/\(As.getD k (0,0)).2<=(As.getD k (0,0)).1/\(As.getD k (0,0)).1/2<n+k
 |[],n,h,k,hk=>by simp at hk
 |x::r,n,h,k,hk=>by
  unfold okG at h
  rw[Bool.and_eq_true,Bool.and_eq_true,Bool.and_eq_true,decide_eq_true_eq,decide_eq_true_eq,decide_eq_true_eq]at h
  obtain⟨⟨⟨h1,h2⟩,h3⟩,h4⟩:=h
  cases k with
  |zero=>exact⟨h1,h2,by simpa using h3⟩
  |succ k=>
   have:=cJ2 h4 k (by simpa using hk)
   rw[List.getD_cons_succ]
   refine⟨this.1,this.2.1,?_⟩
   have:=this.2.2
   omega
section
variable {f:Nat} {As:List (Int×Int)}
theorem bSg(hb:bLq f As):∀{k:Nat} {M:List Bool},k<=As.length->f+As.length<=M.length->∀j,M.getD j false=true->(bNx f As k M).getD j false=true
 |0,M,_,_,j,h=>h
 |k+1,M,hk,hM,j,h=>by
  obtain⟨b1,b2,b3⟩:=hb k (by omega)
  rw[bNx]
  refine bSg hb (by omega) (by split<;>first|exact hM|(rw[bDa,bDa];exact hM)) j ?_
  split
  .rw[bGz (by rw[bDa];omega),bGz (by omega),h];simp
  .exact h
theorem bT4(hb:bLq f As):∀{k:Nat} {M:List Bool},k<=As.length->f+As.length<=M.length->∀j,f+k<=j+1->(bNx f As k M).getD j false=M.getD j false
 |0,M,_,_,j,h=>rfl
 |k+1,M,hk,hM,j,h=>by
  obtain⟨b1,b2,b3⟩:=hb k (by omega)
  rw[bNx,bT4 hb (by omega) (by split<;>first|exact hM|(rw[bDa,bDa];exact hM)) j (by omega)]
  split
  .rw[bGz (by rw[bDa];omega),bGz (by omega),decide_eq_false (by omega),decide_eq_false (by omega),Bool.false_or,Bool.false_or]
  .rfl
def bD3(f:Nat)(As:List (Int×Int))(M:List Bool):Prop:=∀k,k<As.length->M.getD (f+k) false=true->M.getD ((As.getD k (0,0)).1/2).toNat false=true/\M.getD ((As.getD k (0,0)).2/2).toNat false=true
theorem bMe(hb:bLq f As):∀{k:Nat} {M:List Bool},k<=As.length->f+As.length<=M.length->∀j,j<k->(bNx f As k M).getD (f+j) false=true ->
  (bNx f As k M).getD ((As.getD j (0,0)).1/2).toNat false=true/\(bNx f As k M).getD ((As.getD j (0,0)).2/2).toNat false=true
 |0,M,_,_,j,h,_=>by omega
 |k+1,M,hk,hM,j,h,ht=>by
  obtain⟨b1,b2,b3⟩:=hb k (by omega)
  have hlen:f+As.length<=(if M.getD (f+k) false=true then setB (setB M ((As.getD k (0,0)).1/2)) ((As.getD k (0,0)).2/2) else M).length:=by split<;>first|exact hM|(rw[bDa,bDa];exact hM)
  rw[bNx]at ht ⊢
  rcases Nat.lt_or_ge j k with q|q
  .exact bMe hb (by omega) hlen j q ht
  .have e:j=k:=by omega
   subst e
   rw[bT4 hb (by omega) hlen _ (by omega)]at ht
   have hm:M.getD (f+j) false=true:=by
    split at ht
    .rw[bGz (by rw[bDa];omega),bGz (by omega),decide_eq_false (by omega),decide_eq_false (by omega),Bool.false_or,Bool.false_or]at ht
     exact ht
    .exact ht
   rw[if_pos hm]at hlen ⊢
   exact⟨bSg hb (by omega) hlen _ (by rw[bGz (by rw[bDa];omega),bGz (by omega),decide_eq_true (rfl),Bool.true_or,Bool.or_true]),
    bSg hb (by omega) hlen _ (by rw[bGz (by rw[bDa];omega),decide_eq_true (rfl),Bool.true_or])⟩
end
def cntM(M:List Bool):Nat->Nat
 |0=>0
 |v+1=>cntM M v+if M.getD (v+1) false=true then 1 else 0
theorem bLk{M:List Bool}:∀{a b:Nat},a<=b->cntM M a<=cntM M b/\cntM M b<=cntM M a+(b-a)
 |a,0,h=>by
  have:a=0:=by omega
  subst this;omega
 |a,b+1,h=>by
  by_cases e:a=b+1
  .subst e;omega
  .have:=bLk (M:=M) (a:=a) (b:=b) (by omega)
   rw[cntM]
   split<;>omega
def rowM(M:List Bool)(N k:Nat):List Int:=(List.range N).map fun v=>if v=0 then 0 else if v<=k then(if M.getD v false=true then 2*(cntM M v:Int) else -1) else 0
theorem bHq{M:List Bool}{N k:Nat}:(rowM M N k).length=N:=by simp[rowM]
theorem cMp{M:List Bool}{N k v:Nat}(h:v<N):(rowM M N k).getD v 0=if v=0 then 0 else if v<=k then(if M.getD v false=true then 2*(cntM M v:Int) else -1) else 0:=by
 rw[List.getD_eq_getElem?_getD,List.getElem?_eq_getElem (by rw[bHq];exact h),Option.getD_some]
 simp[rowM]
theorem cJq{M:List Bool}{N:Nat}:rowM M N 0=List.replicate N 0:=by
 refine List.ext_getElem (by rw[bHq,List.length_replicate]) fun j h1 h2=>?_
 rw[List.getElem_replicate]
 simp only[rowM,List.getElem_map,List.getElem_range]
 split
 .rfl
 .rw[if_neg (by omega)]
theorem cMo{M:List Bool}{N k:Nat}:(rowM M N k).set (k+1) (if M.getD (k+1) false=true then 2*(cntM M (k+1):Int) else -1)=rowM M N (k+1):=by
 refine List.ext_getElem (by rw[List.length_set,bHq,bHq]) fun j h1 h2=>?_
 rw[List.getElem_set]
 simp only[rowM,List.getElem_map,List.getElem_range]
 by_cases e:k+1=j
 .subst e
  rw[if_pos rfl,if_neg (show ¬k+1=0 by omega),if_pos (show k+1<=k+1 by omega)]
 .rw[if_neg e]
  by_cases e0:j=0
  .rw[if_pos e0,if_pos e0]
  .rw[if_neg e0,if_neg e0]
   by_cases e1:j<=k
   .rw[if_pos e1,if_pos (show j<=k+1 by omega)]
   .rw[if_neg e1,if_neg (show ¬j<=k+1 by omega)]
theorem bSz{M:List Bool}{n w:Nat}(hw:w<=n)(hm:w=0\/M.getD w false=true):(rowM M (n+1) n).getD w 0=2*(cntM M w:Int):=by
 rw[cMp (by omega)]
 by_cases e:w=0
 .subst e;rw[if_pos rfl];rfl
 .rw[if_neg e,if_pos hw,if_pos (hm.resolve_left e)]
def cNa(row:List Int)(g:Int)(x:Int×Int)(cl:List (List Int)):List (List Int):=
 addC (addC (addC cl [litR row (2*g+1),litR row x.1]) [litR row (2*g+1),litR row x.2]) [litR row (2*g),litR row (neg x.1),litR row (neg x.2)]
def bJf(M:List Bool)(row:List Int):Nat->List (Int×Int)->List (List Int)->List (List Int)
 |_,[],cl=>cl
 |g,x::r,cl=>bJf M row (g+1) r (if M.getD g false=true then cNa row g x cl else cl)
end
section
variable {I:Int} {Ls As:List (Int×Int)} {Bs Cs:List Int} {f n:Nat}
theorem gdB{M:List Bool}{v:Nat}(h:v<M.length):M[v]?=some (M.getD v false):=by
 rw[List.getD_eq_getElem?_getD,List.getElem?_eq_getElem h];rfl
theorem getB{M:List Bool}{v:Nat}(h:v<M.length):geti M (v:Int)=some (M.getD v false):=by rw[gi,gdB h]
theorem getP{k:Nat}(h:k<As.length):geti As (k:Int)=some (As.getD k (0,0)):=by
 rw[gi,List.getD_eq_getElem?_getD,List.getElem?_eq_getElem h];rfl
theorem gdI{R:List Int}{v:Nat}(h:v<R.length):R[v]?=some (R.getD v 0):=by
 rw[List.getD_eq_getElem?_getD,List.getElem?_eq_getElem h];rfl
theorem getI{R:List Int}{v:Nat}(h:v<R.length):geti R (v:Int)=some (R.getD v 0):=by rw[gi,gdI h]
theorem bZc{x:Int}(h:0<=x)(h2:x<=1000000):IntKind.wrap .i64 (Int.tdiv x 2)=(((x/2).toNat:Nat):Int):=by
 rw[td h (by omega)];omega
theorem bAm.loop0{N:Nat}{ls:List Int}(hl:∀l∈ls,0<=l/\l<=1000000/\(l/2).toNat<N)(hn:ls.length<=1000)(hI:0<=I/\I<=1000)(hL:Ls.length<=1000)(hN:0<N/\N<=1000000):∀(n i:Nat) (M:List Bool),i+n=ls.length->M.length=N ->
  bAm.l0 ls (ls.length:Int) (i:Int) M I Ls As Bs Cs=bAm.l1 (1+I+Ls.length) ((N:Int)-1) (bTb M (ls.drop i)) I Ls As Bs Cs
 |0,i,M,hi,hM=>by
  have w1:IntKind.wrap .i64 (1+I)=1+I:=by rw[wr]<;>omega
  have w2:IntKind.wrap .i64 (1+I+(Ls.length:Int))=1+I+(Ls.length:Int):=by rw[wr]<;>omega
  have w3:IntKind.wrap .i64 ((M.length:Int)-1)=(N:Int)-1:=by rw[hM,wr]<;>omega
  rw[bAm.l0_eq,cd,if_neg (by omega),List.drop_of_length_le (by omega),w1,w2,w3]
  rfl
 |n+1,i,M,hi,hM=>by
  have hlt:i<ls.length:=by omega
  obtain⟨h0,h1,h2⟩:=hl _ (List.getElem_mem hlt)
  have hw:IntKind.wrap .i64 ((i:Int)+1)=((i+1:Nat):Int):=by rw[wr]<;>omega
  rw[bAm.l0_eq,cd,if_pos (by omega),bCq hlt,Option.bind_some,bZc h0 h1,getB (by rw[hM];exact h2),Option.bind_some,Int.toNat_natCast,gdB (by rw[hM];exact h2),Option.bind_some,hw,
   bAm.loop0 hl hn hI hL hN n (i+1) _ (by omega) (by rw[List.length_set];exact hM),drop_cons hlt,bTb]
  rfl
theorem bAm.loop1(hb:bLq f As)(hf:(f:Int)=1+I+Ls.length)(hN:f+As.length<=1001):∀(k:Nat) (M:List Bool),k<=As.length->M.length=f+As.length ->
  bAm.l1 (1+I+Ls.length) (((f+k:Nat):Int)-1) M I Ls As Bs Cs=some (bNx f As k M)
 |0,M,hk,hM=>by
  rw[bAm.l1_eq,cd,if_neg (by omega)];rfl
 |k+1,M,hk,hM=>by
  obtain⟨b1,b2,b3⟩:=hb k (by omega)
  have e1:((f+(k+1):Nat):Int)-1=((f+k:Nat):Int):=by omega
  have w1:IntKind.wrap .i64 (((f+k:Nat):Int)-(1+I+Ls.length))=(k:Int):=by rw[wr]<;>omega
  have w2:IntKind.wrap .i64 (((f+k:Nat):Int)-1)=((f+k:Nat):Int)-1:=by rw[wr]<;>omega
  have i0:f+k<M.length:=by omega
  rw[e1,bAm.l1_eq,cd,if_pos (by omega),w1,w2,getP (by omega),Option.bind_some,getB i0,Option.bind_some,Int.toNat_natCast,gdB i0,Option.bind_some,bNx]
  generalize As.getD k (0,0)=x at *
  cases hm:M.getD (f+k) false with
  |true=>
   have i1:(x.1/2).toNat<M.length:=by omega
   have i2:(x.2/2).toNat<(M.set (x.1/2).toNat true).length:=by rw[List.length_set];omega
   rw[ct,bZc (by omega) (by omega),bZc (by omega) (by omega),getB i1,Option.bind_some,Int.toNat_natCast,gdB i1,Option.bind_some,Int.toNat_natCast,getB i2,Option.bind_some,gdB i2,Option.bind_some,if_pos rfl]
   exact bAm.loop1 hb hf hN k _ (by omega) (by rw[List.length_set,List.length_set];exact hM)
  |false=>
   rw[cf,if_neg (by simp)]
   exact bAm.loop1 hb hf hN k _ (by omega) hM
theorem bAn.loop0{ls:List Int}{v:Int}(hn:ls.length<=140737488351232)(hr:∀l∈ls,in64 l){b1:Int}{o2 o3:List (List Int)}:∀(m i:Nat),i+m=ls.length ->
  bAn.l0 ls v ls (ls.length:Int) (i:Int) I Ls As Bs Cs b1 o2 o3=if ∀l∈ls.drop i,litN v l then bAn.l0 ls v ls (ls.length:Int) (ls.length:Int) I Ls As Bs Cs b1 o2 o3 else some ((0,([],[])),2)
 |0,i,hi=>by
  have:i=ls.length:=by omega
  subst this
  rw[List.drop_length,if_pos (by simp)]
 |m+1,i,hi=>by
  have hlt:i<ls.length:=by omega
  have hx:=hr _ (List.getElem_mem hlt)
  have hw:IntKind.wrap .i64 ((i:Int)+1)=((i+1:Nat):Int):=by rw[wr]<;>omega
  rw[bAn.l0_eq (x31:=(i:Int)),cd,if_pos (by omega),bCq hlt,Option.bind_some,cd,drop_cons hlt]
  by_cases c1:ls[i]<0
  .rw[if_pos c1,if_neg (fun g=>by have:=(g _ (List.mem_cons_self ..)).1;omega)]
  rw[if_neg c1,td2 (by omega) hx,cd]
  by_cases c2:ls[i]/2>v
  .rw[if_pos c2,if_neg (fun g=>by have:=(g _ (List.mem_cons_self ..)).2;omega)]
  rw[if_neg c2,hw,bAn.loop0 hn hr m (i+1) (by omega)]
  by_cases c3:∀l∈ls.drop (i+1),litN v l
  .rw[if_pos c3,if_pos (List.forall_mem_cons.2 ⟨⟨by omega,by omega⟩,c3⟩)]
  .rw[if_neg c3,if_neg (fun g=>c3 (List.forall_mem_cons.1 g).2)]
theorem bAn.loop1{M:List Bool}(hI:0<=I)(hM:M.length=n+1)(hn:n<=1000)(hf:(f:Int)=1+I+Ls.length)(hN:f+As.length<=1001){b1:Int}{o5 o6 o7 o8:List (List Int)}:∀(m k:Nat),k+m=n ->
  bAn.l1 (n:Int) ((k+1:Nat):Int) I Ls As Bs Cs b1 M (rowM M (n+1) k) (cntM M k:Int) o5 o6 o7 o8=bAn.l2 (f:Int) As (As.length:Int) 0 b1 M (rowM M (n+1) n) (cntM M n:Int) o5 o6 o7 o8
 |0,k,hk=>by
  have:k=n:=by omega
  subst this
  have w1:IntKind.wrap .i64 (1+I)=1+I:=by rw[wr]<;>omega
  have w2:IntKind.wrap .i64 (1+I+(Ls.length:Int))=(f:Int):=by rw[wr]<;>omega
  rw[bAn.l1_eq,cd,if_neg (by omega),w1,w2]
 |m+1,k,hk=>by
  have i1:k+1<(rowM M (n+1) k).length:=by rw[bHq];omega
  have i2:k+1<M.length:=by omega
  have hc:=bLk (M:=M) (a:=0) (b:=k) (by omega)
  have w1:IntKind.wrap .i64 (((k+1:Nat):Int)+1)=((k+1+1:Nat):Int):=by rw[wr]<;>omega
  rw[cntM]at hc
  have hs:=cMo (M:=M) (N:=n+1) (k:=k)
  rw[<-bAn.loop1 hI hM hn hf hN m (k+1) (by omega),bAn.l1_eq (v13:=((k+1:Nat):Int)),cd,if_pos (by omega),getI i1,Option.bind_some,Int.toNat_natCast,gdI i1,Option.bind_some,getB i2,Option.bind_some,gdB i2,Option.bind_some,w1]
  cases hm:M.getD (k+1) false with
  |true=>
   rw[hm,if_pos rfl]at hs
   have i3:k+1<((rowM M (n+1) k).set (k+1) (-1)).length:=by rw[List.length_set];exact i1
   have w2:IntKind.wrap .i64 ((cntM M k:Int)+1)=(cntM M (k+1):Int):=by rw[cntM,hm,if_pos rfl,wr]<;>omega
   have hc2:=bLk (M:=M) (a:=0) (b:=k+1) (by omega)
   rw[cntM]at hc2
   have w3:IntKind.wrap .i64 (2*(cntM M (k+1):Int))=2*(cntM M (k+1):Int):=by rw[wr]<;>omega
   rw[ct,getI i3,Option.bind_some,gdI i3,Option.bind_some,w2,w3,List.set_set,hs]
  |false=>
   rw[hm,if_neg (by simp)]at hs
   have hcc:cntM M (k+1)=cntM M k:=by rw[cntM,hm];rfl
   rw[cf,hs,hcc]
theorem bNr{M:List Bool}{l:Int}(h0:0<=l)(hl:(l/2).toNat<=n)(hm:(l/2).toNat=0\/M.getD (l/2).toNat false=true):litR (rowM M (n+1) n) l=2*(cntM M (l/2).toNat:Int)+l%2/\cntM M (l/2).toNat<=cntM M n:=by
 refine⟨?_,(bLk hl).1⟩
 unfold litR
 rw[bSz hl hm]
theorem bAn.loop2{M:List Bool}(hM:M.length=n+1)(hn:n<=1000)(hb:bLq f As)(hc:bD3 f As M)(hf:0<f)(hN:f+As.length=n+1){b1:Int}{o4 o5 o6:List (List Int)}:∀(m i:Nat) (cl:List (List Int)),i+m=As.length->cl.length<=3*i ->
  bAn.l2 (f:Int) As (As.length:Int) (i:Int) b1 M (rowM M (n+1) n) (cntM M n:Int) o4 o5 o6 cl=some (((cntM M n:Int),([rowM M (n+1) n],bJf M (rowM M (n+1) n) (f+i) (As.drop i) cl)),0)
 |0,i,cl,hi,hcl=>by
  rw[bAn.l2_eq,cd,if_neg (by omega),List.drop_of_length_le (by omega)];rfl
 |m+1,i,cl,hi,hcl=>by
  have hlt:i<As.length:=by omega
  obtain⟨b1',b2,b3⟩:=hb i hlt
  have hcl':=hc i hlt
  have i1:f+i<M.length:=by omega
  have w1:IntKind.wrap .i64 ((f:Int)+(i:Int))=((f+i:Nat):Int):=by rw[wr]<;>omega
  have w2:IntKind.wrap .i64 ((i:Int)+1)=((i+1:Nat):Int):=by rw[wr]<;>omega
  have hd:As.drop i=As.getD i (0,0)::As.drop (i+1):=by
   rw[drop_cons hlt,List.getD_eq_getElem?_getD,List.getElem?_eq_getElem hlt];rfl
  have hv:okV (cntM M n:Int):=by
   have:=bLk (M:=M) (a:=0) (b:=n) (by omega)
   rw[cntM]at this
   unfold okV;omega
  rw[bAn.l2_eq,cd,if_pos (by omega),getP hlt,Option.bind_some,w1,w2,getB i1,Option.bind_some,Int.toNat_natCast,gdB i1,Option.bind_some,hd,bJf]
  generalize As.getD i (0,0)=x at *
  cases hm:M.getD (f+i) false with
  |false=>
   rw[cnot,cf,if_neg (by simp)]
   exact bAn.loop2 hM hn hb hc hf hN m (i+1) cl (by omega) (by omega)
  |true=>
   obtain⟨c1,c2⟩:=hcl' hm
   have i2:f+i<(rowM M (n+1) n).length:=by rw[bHq];omega
   obtain⟨j1,j2⟩:(rowM M (n+1) n).getD (f+i) 0=2*(cntM M (f+i):Int)/\cntM M (f+i)<=cntM M n:=⟨bSz (by omega) (.inr hm),(bLk (by omega)).1⟩
   have g1:litR (rowM M (n+1) n) (2*((f+i:Nat):Int))=2*(cntM M (f+i):Int):=by
    unfold litR
    rw[show 2*((f+i:Nat):Int)/2=((f+i:Nat):Int) by omega,Int.toNat_natCast,j1];omega
   have g2:litR (rowM M (n+1) n) (2*((f+i:Nat):Int)+1)=2*(cntM M (f+i):Int)+1:=by
    unfold litR
    rw[show(2*((f+i:Nat):Int)+1)/2=((f+i:Nat):Int) by omega,Int.toNat_natCast,j1];omega
   obtain⟨a1,a2⟩:=bNr (n:=n) (M:=M) (l:=x.1) (by omega) (by omega) (.inr c1)
   obtain⟨a3,a4⟩:=bNr (n:=n) (M:=M) (l:=x.2) (by omega) (by omega) (.inr c2)
   have r1:=bSz (M:=M) (n:=n) (w:=(x.1/2).toNat) (by omega) (.inr c1)
   have r2:=bSz (M:=M) (n:=n) (w:=(x.2/2).toNat) (by omega) (.inr c2)
   have t1:=bJ8 (row:=rowM M (n+1) n) (l:=x.1) (by omega) (by rw[bHq];omega) r1 (by obtain⟨_,q⟩:=hv;omega)
   have t2:=bJ8 (row:=rowM M (n+1) n) (l:=x.2) (by omega) (by rw[bHq];omega) r2 (by obtain⟨_,q⟩:=hv;omega)
   have n1:=cD1 (row:=rowM M (n+1) n) (l:=x.1) r1
   have n2:=cD1 (row:=rowM M (n+1) n) (l:=x.2) r2
   obtain⟨v1,v2⟩:=hv
   have x1:bxor .i64 (2*(cntM M (f+i):Int)) 1=litR (rowM M (n+1) n) (2*((f+i:Nat):Int)+1):=by
    rw[bG3 (by omega) (by omega),g2];unfold neg;rw[if_pos (by omega)]
   have x2:bxor .i64 (litR (rowM M (n+1) n) x.1) 1=litR (rowM M (n+1) n) (neg x.1):=by rw[bG3 (by omega) (by omega),n1]
   have x3:bxor .i64 (litR (rowM M (n+1) n) x.2) 1=litR (rowM M (n+1) n) (neg x.2):=by rw[bG3 (by omega) (by omega),n2]
   have y1:0<=litR (rowM M (n+1) n) (neg x.1)/\litR (rowM M (n+1) n) (neg x.1)<=2*(cntM M n:Int)+1:=by rw[n1,a1];unfold neg;split<;>omega
   have y2:0<=litR (rowM M (n+1) n) (neg x.2)/\litR (rowM M (n+1) n) (neg x.2)<=2*(cntM M n:Int)+1:=by rw[n2,a3];unfold neg;split<;>omega
   have m1:∀z∈[litR (rowM M (n+1) n) (2*((f+i:Nat):Int)+1),litR (rowM M (n+1) n) x.1],0<=z/\z<=2*(cntM M n:Int)+1:=fun z hz=>by
    rcases List.mem_cons.1 hz with rfl|hz
    .omega
    .rw[List.mem_singleton]at hz;subst hz;omega
   have m2:∀z∈[litR (rowM M (n+1) n) (2*((f+i:Nat):Int)+1),litR (rowM M (n+1) n) x.2],0<=z/\z<=2*(cntM M n:Int)+1:=fun z hz=>by
    rcases List.mem_cons.1 hz with rfl|hz
    .omega
    .rw[List.mem_singleton]at hz;subst hz;omega
   have m3:∀z∈[litR (rowM M (n+1) n) (2*((f+i:Nat):Int)),litR (rowM M (n+1) n) (neg x.1),litR (rowM M (n+1) n) (neg x.2)],0<=z/\z<=2*(cntM M n:Int)+1:=fun z hz=>by
    rcases List.mem_cons.1 hz with rfl|hz
    .omega
    .rcases List.mem_cons.1 hz with rfl|hz
     .exact y1
     .rw[List.mem_singleton]at hz;subst hz;exact y2
   have q1:=bY9 (cl:=cl) (ls:=[litR (rowM M (n+1) n) (2*((f+i:Nat):Int)+1),litR (rowM M (n+1) n) x.1])
   have q2:=bY9 (cl:=addC cl [litR (rowM M (n+1) n) (2*((f+i:Nat):Int)+1),litR (rowM M (n+1) n) x.1]) (ls:=[litR (rowM M (n+1) n) (2*((f+i:Nat):Int)+1),litR (rowM M (n+1) n) x.2])
   have q3:=bY9 (cl:=addC (addC cl [litR (rowM M (n+1) n) (2*((f+i:Nat):Int)+1),litR (rowM M (n+1) n) x.1]) [litR (rowM M (n+1) n) (2*((f+i:Nat):Int)+1),litR (rowM M (n+1) n) x.2]) (ls:=[litR (rowM M (n+1) n) (2*((f+i:Nat):Int)),litR (rowM M (n+1) n) (neg x.1),litR (rowM M (n+1) n) (neg x.2)])
   rw[cnot,ct,getI i2,Option.bind_some,gdI i2,Option.bind_some,j1,t1,Option.bind_some,t2,Option.bind_some,x1,x2,x3,<-g1,
    bJ9 ⟨v1,v2⟩ (by omega) m1 (by simp),Option.bind_some,bJ9 ⟨v1,v2⟩ (by omega) m2 (by simp),Option.bind_some,bJ9 ⟨v1,v2⟩ (by omega) m3 (by simp),Option.bind_some,if_pos rfl,
    bAn.loop2 hM hn hb hc hf hN m (i+1) _ (by omega) (by omega)]
   rfl
def bCb(I:Int)(Ls:List (Int×Int)):Nat:=(1+I+Ls.length).toNat
def bQz(I:Int)(Ls As:List (Int×Int))(lits:List Int):List Bool:=bNx (bCb I Ls) As As.length (bTb (List.replicate ((size I Ls As).toNat+1) false) lits)
def tsM(I:Int)(Ls As:List (Int×Int))(M:List Bool):Int×List (List Int)×List (List Int):=
 ((cntM M (size I Ls As).toNat:Int),([rowM M ((size I Ls As).toNat+1) (size I Ls As).toNat],bJf M (rowM M ((size I Ls As).toNat+1) (size I Ls As).toNat) (bCb I Ls) As []))
def tsC(I:Int)(Ls As:List (Int×Int))(lits:List Int):Int×List (List Int)×List (List Int):=tsM I Ls As (bQz I Ls As lits)
theorem bLn(h:bCc I Ls As Bs Cs=0):bLq (bCb I Ls) As:=by
 obtain⟨h0,_,g⟩:=bBh h
 intro k hk
 have:=cJ2 g.2.2.2 k hk
 refine⟨this.1,this.2.1,?_⟩
 have:=this.2.2
 unfold bCb
 omega
theorem bXi(h:bGi I Ls As Bs Cs){lits:List Int}(hn:lits.length<=1000)(hr:∀l∈lits,in64 l):
  bAn I Ls As Bs Cs lits=some (if bCc I Ls As Bs Cs=0 then(if ∀l∈lits,litN (size I Ls As) l then(tsC I Ls As lits,0) else((0,([],[])),2)) else((0,([],[])),bCc I Ls As Bs Cs)):=by
 rw[bAn.eq,bHu h,Option.bind_some,cn]
 by_cases c:bCc I Ls As Bs Cs=0
 .have hb:=bLn c
  obtain⟨k1,k2,_⟩:=bBh c
  obtain⟨k2,k3,_⟩:=k2
  have hs:size I Ls As=(((size I Ls As).toNat:Nat):Int):=by unfold size;omega
  have hf:((bCb I Ls:Nat):Int)=1+I+Ls.length:=by unfold bCb;omega
  have hsz:bCb I Ls+As.length=(size I Ls As).toNat+1:=by unfold bCb size;omega
  have hs1:(size I Ls As).toNat<=1000:=by unfold size;omega
  rw[if_pos c,if_pos c]
  have g0:=bAn.loop0 (I:=I) (Ls:=Ls) (As:=As) (Bs:=Bs) (Cs:=Cs) (v:=size I Ls As) (b1:=0) (o2:=[]) (o3:=[]) (show lits.length<=140737488351232 by omega) hr lits.length 0 (by omega)
  rw[show((0:Nat):Int)=0 from rfl,List.drop_zero]at g0
  dsimp only
  rw[if_pos rfl,g0]
  by_cases cl:∀l∈lits,litN (size I Ls As) l
  .rw[if_pos cl,if_pos cl,bAn.l0_eq,cd,if_neg (by omega),hs]
   have w1:IntKind.wrap .i64 ((((size I Ls As).toNat:Nat):Int)+1)=(((size I Ls As).toNat+1:Nat):Int):=by rw[wr]<;>omega
   have hcl:∀l∈lits,0<=l/\l<=1000000/\(l/2).toNat<(size I Ls As).toNat+1:=fun l hl=>by
    have:=cl l hl
    unfold litN at this
    omega
   have c0:=bAm.loop0 (I:=I) (Ls:=Ls) (As:=As) (Bs:=Bs) (Cs:=Cs) (N:=(size I Ls As).toNat+1) hcl hn ⟨k1,by omega⟩ (by omega) ⟨by omega,by omega⟩ lits.length 0 (List.replicate ((size I Ls As).toNat+1) false) (by omega) (List.length_replicate ..)
   rw[show((0:Nat):Int)=0 from rfl,List.drop_zero]at c0
   have c1:=bAm.loop1 (I:=I) (Ls:=Ls) (As:=As) (Bs:=Bs) (Cs:=Cs) hb hf (by omega) As.length (bTb (List.replicate ((size I Ls As).toNat+1) false) lits) (Nat.le_refl _) (by rw[bKs,List.length_replicate];omega)
   rw[hsz]at c1
   have hM:(bQz I Ls As lits).length=(size I Ls As).toNat+1:=by unfold bQz;rw[cA6,bKs,List.length_replicate]
   have hclo:bD3 (bCb I Ls) As (bQz I Ls As lits):=fun k hk ht=>bMe hb (Nat.le_refl _) (by rw[bKs,List.length_replicate];omega) k hk ht
   rw[w1,bPp (by omega) (by omega),Option.bind_some,if_pos rfl,Int.toNat_natCast,bAm.eq,List.length_replicate,c0,c1]
   have hM':bNx (bCb I Ls) As As.length (bTb (List.replicate ((size I Ls As).toNat+1) false) lits)=bQz I Ls As lits:=rfl
   have hnn:(Nat.blt 0 ((size I Ls As).toNat+1)&&Nat.beq ((size I Ls As).toNat+1) ((size I Ls As).toNat+1))=true:=by
    rw[Bool.and_eq_true]
    exact⟨by rw[Nat.blt_eq];omega,Nat.beq_refl _⟩
   rw[Option.bind_some,hM',hM,hnn,ct,bPp (by omega) (by omega),Option.bind_some,if_pos rfl,Int.toNat_natCast]
   have l1:=bAn.loop1 (I:=I) (Ls:=Ls) (As:=As) (Bs:=Bs) (Cs:=Cs) (b1:=0) (o5:=[]) (o6:=[]) (o7:=[]) (o8:=[]) k1 hM hs1 hf (by omega) (size I Ls As).toNat 0 (by omega)
   rw[cJq]at l1
   have l2:=bAn.loop2 (b1:=0) (o4:=[]) (o5:=[]) (o6:=[]) hM hs1 hb hclo (show 0<bCb I Ls by omega) hsz As.length 0 [] (by omega) (by simp)
   rw[List.drop_zero]at l2
   exact l1.trans l2
  .rw[if_neg cl,if_neg cl]
 .rw[if_neg c,if_neg c]
  dsimp only
  rw[if_neg c]
end
section
variable {I:Int} {Ls As:List (Int×Int)} {Bs Cs:List Int} {f n:Nat} {lits:List Int}
theorem tsOf_ok(h:bGi I Ls As Bs Cs)(hn:lits.length<=1000)(hr:∀l∈lits,in64 l)(hc:bCc I Ls As Bs Cs=0)(hl:∀l∈lits,litN (size I Ls As) l){r:Int×List (List Int)×List (List Int)}(e:tsC I Ls As lits=r):bAn I Ls As Bs Cs lits=some (r,0):=by
 rw[bXi h hn hr,if_pos hc,if_pos hl,e]
theorem sized_small(h1:in64 I)(h2:Ls.length<=100)(h3:∀x∈Ls,in64 x.1/\in64 x.2)(h4:As.length<=100)(h5:∀x∈As,in64 x.1/\in64 x.2):bGi I Ls As [] [] where
 i:=h1
 ls:=⟨by omega,h3⟩
 as_:=⟨by omega,h5⟩
 bs:=⟨by simp,by simp⟩
 cs:=⟨by simp,by simp⟩
end
section
variable {I:Int} {Ls As:List (Int×Int)} {Bs Cs:List Int} {lits:List Int}
end
section
variable {v:Int} {fr cl:List (List Int)}
end
section
variable {I:Int} {Ls As:List (Int×Int)} {Bs Cs:List Int} {f n:Nat}
def sat(W:List Bool)(cl:List (List Int)):Bool:=cl.all fun c=>c.any (bFf W)
end
section
variable {v:Int} {L:List (List Int)} {A:List Int}
theorem solA_want{n:Nat}{t s T:List Int}{log:List (List Int)}{l:Int}(hp:bAk L (v+1).toNat t=(T,-1))(hw:bM3 A T=some l)(h0:¬isS T l=0):solA v A (n+1) L t s log=solA v A n L (T++[l]) (s++[(T.length:Int)]) log:=by
 rw[solA,hp,if_neg (by omega),hw]
 dsimp only
 rw[if_neg h0]
theorem solA_under{n:Nat}{t s T c:List Int}{log:List (List Int)}{l:Int}(hp:bAk L (v+1).toNat t=(T,-1))(hw:bM3 A T=some l)(h0:isS T l=0)(hc:lrnC v L A=c):solA v A (n+1) L t s log=(false,[],log++[c],log.length):=by
 rw[solA,hp,if_neg (by omega),hw]
 dsimp only
 rw[if_pos h0,hc]
theorem solA_con{n:Nat}{t s T c t' s':List Int}{log:List (List Int)}{i:Int}(hp:bAk L (v+1).toNat t=(T,i))(hi:0<=i)(hc:lrnC v L (decs T s)=c)(h0:c≠[])(hb:bHc v T s c=((v,(t',s')),0)):
  solA v A (n+1) L t s log=solA v A n (L++[c]) t' s' (log++[c]):=by
 subst hc
 rw[solA,hp,if_pos hi,if_neg h0]
 dsimp only
 rw[hb]
end
section
variable {I:Int} {Ls As:List (Int×Int)} {Bs Cs:List Int}
theorem never.step{bud v y j:Int}{i:Nat}{ls A R:List Int}{L:List (List Int)}(hi:i<ls.length)(hn:ls.length<=2)(hy:ls.getD i 0=y)(h0:0<=y/\y<=1000000)(hr:(y/2).toNat<R.length)
  (hj:R.getD (y/2).toNat 0=2*j) (hj2:0<=j/\j<=1000000) (hz:y<=1->j=0) (hA:A.length<=10) :
  bBg.l0 bud (ls.length:Int) (i:Int) v A ls [R] L=if litR R y=0 then some (true,0) else bBg.l0 bud (ls.length:Int) ((i+1:Nat):Int) v (if 1<litR R y then A++[litR R y] else A) ls [R] L:=by
 have e:=bJ8 (row:=R) h0 hr hj hj2
 have hw:IntKind.wrap .i64 ((i:Int)+1)=((i+1:Nat):Int):=by rw[wr]<;>omega
 have hg:=getI hi
 have hg2:=gdI hi
 rw[hy]at hg hg2
 rw[bFs.eq,bZc h0.1 h0.2,getI hr,Option.bind_some,Option.some.injEq]at e
 rw[bBg.l0_eq,cd,if_pos (by omega),hg,Option.bind_some,Int.toNat_natCast,hg2,Option.bind_some,cd]
 by_cases h1:y>1
 .rw[if_pos h1,show geti [R] 0=some R from rfl,Option.bind_some,show([R]:List (List Int))[Int.toNat 0]?=some R from rfl,Option.bind_some,bZc h0.1 h0.2,getI hr,Option.bind_some,e,ce]
  by_cases h2:litR R y=0
  .rw[if_pos h2,if_pos h2]
  .rw[if_neg h2,if_neg h2,cd]
   by_cases h3:litR R y>1
   .rw[if_pos h3,if_pos (show 1<litR R y from h3),bCi (by simp;omega),Option.bind_some,hw]
   .rw[if_neg h3,if_neg (show ¬1<litR R y from h3),hw]
 .have hl:litR R y=y:=by
   unfold litR
   rw[hj,hz (by omega)]
   omega
  rw[if_neg h1,hl,ce]
  by_cases h2:y=0
  .rw[if_pos h2,if_pos h2]
  .rw[if_neg h2,if_neg h2,cd,if_neg h1,if_neg (show ¬1<y from h1),hw]
theorem cKb{bud v:Int}{ls A:List Int}{rs L:List (List Int)}:bBg.l0 bud (ls.length:Int) (ls.length:Int) v A ls rs L=(bGy v L A bud).bind fun r=>if r.2=0 then some (!r.1.1,0) else some (false,r.2):=by
 rw[bBg.l0_eq,cd,if_neg (by omega)]
 congr 1
 funext r
 rw[cn]
end
section
variable {gate N:Nat} {As:LP} {g:List Int}
abbrev tol(gate:Nat)(As:LP)(g:List Int)(n:Nat):List Int:=(runB (2*(gate:Int)) gate As g n).1
abbrev bld(gate:Nat)(As:LP)(g:List Int)(n:Nat):LP:=(runB (2*(gate:Int)) gate As g n).2
theorem bQ7{a b:List Int}(h:a<+:b){k:Nat}(hk:k<a.length):b.getD k 0=a.getD k 0:=by
 obtain⟨r,rfl⟩:=h
 simp only[List.getD_eq_getElem?_getD]
 rw[List.getElem?_append_left hk]
theorem cBd(hK:BOk N gate As g):∀n,n<=N->(∀v,v<n->0<=(tol gate As g n).getD v 0/\(tol gate As g n).getD v 0/2<((gate+(bld gate As g n).length:Nat):Int)) /\
  ∀(k:Nat) (p:Int×Int),(bld gate As g n)[k]?=some p->0<=p.2/\p.2<p.1/\p.1/2<((gate+k:Nat):Int):=by
 intro n
 induction n with
 |zero=>intro _;exact⟨fun v h=>by omega,fun k p h=>by simp[bld,runB]at h⟩
 |succ n ih=>
  intro hn
  obtain⟨ih1,ih2⟩:=ih (by omega)
  have hlen:(tol gate As g n).length=n:=bDw _ _ _ _ n
  have hat:∀x:Int,0<=x->x/2<(n:Int)->0<=atT (tol gate As g n) x/\atT (tol gate As g n) x/2<((gate+(bld gate As g n).length:Nat):Int):=fun x h0 h1=>by
   obtain⟨q1,q2⟩:=ih1 (x/2).toNat (by omega)
   unfold atT bS7
   split
   .exact⟨q1,q2⟩
   .unfold negI
    split<;>omega
  have old:∀(m:Nat),(bld gate As g n).length<=m->∀v,v<n->0<=(tol gate As g n).getD v 0/\(tol gate As g n).getD v 0/2<((gate+m:Nat):Int):=fun m hm v hv=>by
   obtain⟨q1,q2⟩:=ih1 v hv
   exact⟨q1,by omega⟩
  unfold tol bld at *
  simp only[runB,bVj]
  rw[bDw]
  have snoc:∀(m:Nat) (x:Int),(runB (2*(gate:Int)) gate As g n).2.length<=m->0<=x/\x/2<((gate+m:Nat):Int)->∀v,v<n+1->0<=((runB (2*(gate:Int)) gate As g n).1++[x]).getD v 0/\((runB (2*(gate:Int)) gate As g n).1++[x]).getD v 0/2<((gate+m:Nat):Int):=fun m x hm hx v hv=>by
   rw[bJ5,hlen]
   by_cases e:v<n
   .rw[if_pos e];exact old m hm v e
   .rw[if_neg e,if_pos (by omega)];exact hx
  by_cases h1:0<=g.getD n 0
  .rw[if_pos h1]
   have h2:=(hK.giv n (by omega)).1
   exact⟨snoc _ _ (Nat.le_refl _) (hat _ h1 (by omega)),ih2⟩
  .rw[if_neg h1]
   by_cases h2:n<gate
   .rw[if_pos h2]
    exact⟨snoc _ _ (Nat.le_refl _) (by omega),ih2⟩
   .rw[if_neg h2]
    simp only
    have hk:n-gate<As.length:=by have:=hK.len;omega
    have hp:As[n-gate]?=some (As.getD (n-gate) (0,0)):=by rw[List.getElem?_eq_getElem hk];simp[List.getD,List.getElem?_eq_getElem hk]
    obtain⟨q0,q1,q2⟩:=hK.gates _ _ hp
    have e9:(gate:Int)+((n-gate:Nat):Int)=n:=by omega
    rw[e9]at q2
    have a1:=hat (As.getD (n-gate) (0,0)).1 (by omega) q2
    have a2:=hat (As.getD (n-gate) (0,0)).2 q0 (by omega)
    generalize atT (runB (2*(gate:Int)) gate As g n).1 (As.getD (n-gate) (0,0)).1=x at a1 ⊢
    generalize atT (runB (2*(gate:Int)) gate As g n).1 (As.getD (n-gate) (0,0)).2=y at a2 ⊢
    unfold andB
    cases hs:andS x y with
    |some v=>
     refine⟨snoc _ _ (Nat.le_refl _) ?_,ih2⟩
     unfold andS at hs
     split at hs
     .cases hs;have:=hK.pos;constructor<;>simp only[]<;>omega
     .split at hs
      .cases hs;exact a2
      .split at hs
       .cases hs;exact a1
       .cases hs
    |none=>
     obtain⟨_,_,_,_,hne,_⟩:=bMn hs
     simp only[]
     cases hkn:bDq (2*(gate:Int)) (runB (2*(gate:Int)) gate As g n).2 (max x y,min x y) with
     |some c=>
      obtain⟨k,k1,k2,_⟩:=bRh _ _ _ _ hkn
      refine⟨snoc _ _ (Nat.le_refl _) (by simp only[];omega),ih2⟩
     |none=>
      refine⟨snoc _ _ (by simp) (by simp only[List.length_append,List.length_singleton];omega),fun k p hp=>?_⟩
      rcases Nat.lt_or_ge k (runB (2*(gate:Int)) gate As g n).2.length with hlt|hge
      .rw[List.getElem?_append_left hlt]at hp
       exact ih2 k p hp
      .rw[List.getElem?_append_right hge]at hp
       have:k-(runB (2*(gate:Int)) gate As g n).2.length=0:=by
        rcases Nat.eq_zero_or_pos (k-(runB (2*(gate:Int)) gate As g n).2.length) with h|h
        .exact h
        .rw[List.getElem?_eq_none (by simp;omega)]at hp;cases hp
       rw[this]at hp
       simp at hp
       subst hp
       simp only[]
       omega
theorem cLh(hK:BOk N gate As g):(bld gate As g N).length<=As.length:=by
 have:=(bSy hK N (Nat.le_refl _)).ands
 have:=hK.len
 unfold bld
 omega
end
section
abbrev U(x:Int):BitVec 64:=BitVec.ofInt 64 x
abbrev w64(x:Int):Prop:=0<=x/\x<18446744073709551616
theorem wrU{x:Int}(h:w64 x):IntKind.wrap .u64 x=x:=by rw[IntKind.wrap_u64];omega
theorem wrU_in(x:Int):w64 (IntKind.wrap .u64 x):=by rw[IntKind.wrap_u64];omega
theorem bS8(b:BitVec 64):w64 (b.toNat:Int):=⟨Int.natCast_nonneg _,by have:=b.isLt;omega⟩
theorem bT9(a b:Int):band .u64 a b=((U a&&&U b).toNat:Int):=wrU (bS8 (U a&&&U b))
theorem bW9(a b:Int):bxor .u64 a b=((U a^^^U b).toNat:Int):=wrU (bS8 (U a^^^U b))
theorem cF1{x:Int}(h:w64 x):((U x).toNat:Int)=x:=by
 show((BitVec.ofInt 64 x).toNat:Int)=x
 rw[BitVec.toNat_ofInt]
 omega
theorem cLw(b:BitVec 64):U (b.toNat:Int)=b:=by
 apply BitVec.eq_of_toNat_eq
 have:=cF1 (bS8 b)
 omega
def inM(a x:Int):Prop:=w64 x/\U x&&&U a=U x
theorem inM.band{a x y:Int}(h:inM a x)(h':inM a y):inM a (band .u64 x y):=by
 refine⟨by rw[bT9];exact bS8 _,?_⟩
 rw[bT9,cLw,BitVec.and_assoc,h'.2]
theorem inM.not{a x:Int}(h:inM a x):Go.Proofs.YtjkoadoekaplpaaGreat.R.band .u64 (Go.Proofs.YtjkoadoekaplpaaGreat.R.bxor .u64 (IntKind.max .u64) x) a=Go.Proofs.YtjkoadoekaplpaaGreat.R.bxor .u64 x a/\inM a (Go.Proofs.YtjkoadoekaplpaaGreat.R.bxor .u64 x a):=by
 have hb:∀i,((U x).getLsbD i&&(U a).getLsbD i)=(U x).getLsbD i:=fun i=>by
  have:=congrArg (fun b:BitVec 64=>b.getLsbD i) h.2
  simpa using this
 have hm:U (IntKind.max .u64)=BitVec.allOnes 64:=by decide
 refine⟨?_,by rw[bW9];exact bS8 _,?_⟩
 .rw[bT9,bW9,bW9,cLw,hm]
  congr 2
  apply BitVec.eq_of_getLsbD_eq
  intro i hi
  have:=hb i
  simp only[BitVec.getLsbD_and,BitVec.getLsbD_xor,BitVec.getLsbD_allOnes,hi,decide_true]
  revert this
  cases (U x).getLsbD i<;>cases (U a).getLsbD i<;>simp
 .rw[bW9,cLw]
  apply BitVec.eq_of_getLsbD_eq
  intro i hi
  have:=hb i
  simp only[BitVec.getLsbD_and,BitVec.getLsbD_xor]
  revert this
  cases (U x).getLsbD i<;>cases (U a).getLsbD i<;>simp
theorem inM.zero{a:Int}:inM a 0:=⟨by decide,by
 show(BitVec.ofInt 64 0)&&&U a=BitVec.ofInt 64 0
 simp⟩
theorem inM.full{x:Int}(h:w64 x):inM 18446744073709551615 x:=⟨h,by
 have hm:U 18446744073709551615=BitVec.allOnes 64:=by decide
 rw[hm];exact BitVec.and_allOnes⟩
def bDc(m:Nat):Int:=if 6<=m then 18446744073709551615 else IntKind.wrap .u64 (bshl .u64 1 (bshl .u64 1 (m:Int))-1)
def pats:List Int:=[12297829382473034410,14757395258967641292,17361641481138401520,18374966859414961920,18446462603027742720,18446744069414584320]
def stepS(v s i:Int):Int:=bor .u64 s (bshl .u64 (IntKind.wrap .u64 (band .i64 (bshr .i64 i (IntKind.wrap .i64 (v-1))) 1)) i)
def foldS(v:Int):Nat->Nat->Int->Int
 |0,_,s=>s
 |n+1,i,s=>foldS v n (i+1) (stepS v s (i:Int))
def okSmall:Bool:=(List.range 7).all fun m=>(List.range m).all fun k=>decide (foldS ((k+1:Nat):Int) (2^m) 0 0=band .u64 (pats.getD k 0) (bDc m))&&decide (U (band .u64 (pats.getD k 0) (bDc m))&&&U (bDc m)=U (band .u64 (pats.getD k 0) (bDc m)))
theorem bZ6:okSmall=true:=by decide +kernel
theorem cMh{m k:Nat}(hm:m<=6)(hk:k<m):foldS ((k+1:Nat):Int) (2^m) 0 0=band .u64 (pats.getD k 0) (bDc m)/\inM (bDc m) (band .u64 (pats.getD k 0) (bDc m)):=by
 have:=List.all_eq_true.1 bZ6 m (List.mem_range.2 (by omega))
 have:=List.all_eq_true.1 this k (List.mem_range.2 hk)
 rw[Bool.and_eq_true,decide_eq_true_iff,decide_eq_true_iff]at this
 exact⟨this.1,by rw[bT9];exact bS8 _,this.2⟩
def lin(x:Int):Int:=IntKind.wrap .u64 (IntKind.wrap .u64 (x*6364136223846793005)+1442695040888963407)
def linS:Nat->Int
 |0=>1
 |n+1=>lin (linS n)
def inp(m k:Nat):Int:=if m<=6 then band .u64 (pats.getD k 0) (bDc m) else linS (k+1)
def inL(m:Nat):Nat->List Int
 |0=>[0]
 |k+1=>inL m k++[inp m k]
theorem bKd(m:Nat):∀k,(inL m k).length=k+1
 |0=>rfl
 |k+1=>by simp[inL,bKd m k]
theorem inp_in{m k:Nat}(hk:k<m):inM (bDc m) (inp m k):=by
 unfold inp
 by_cases h:m<=6
 .rw[if_pos h];exact(cMh h hk).2
 .rw[if_neg h]
  unfold bDc
  rw[if_pos (by omega)]
  exact inM.full (wrU_in _)
theorem cD5{m:Nat}:∀k,k<=m->∀x∈inL m k,inM (bDc m) x
 |0,_,x,hx=>by simp only[inL,List.mem_singleton]at hx;subst hx;exact inM.zero
 |k+1,hk,x,hx=>by
  rcases List.mem_append.1 hx with h|h
  .exact cD5 k (by omega) x h
  .rw[List.mem_singleton]at h;subst h;exact inp_in (by omega)
theorem cDk{P:List Int}{k:Nat}{x:Int}:(P++List.replicate (k+1) 0).set P.length x=(P++[x])++List.replicate k 0:=by
 rw[List.set_append_right _ _ (Nat.le_refl _),Nat.sub_self,List.replicate_succ,List.set_cons_zero,List.append_assoc]
 rfl
def bGa(a:Int)(s:List Int)(l:Int):Int:=if l%2=1 then bxor .u64 (s.getD (l/2).toNat 0) a else s.getD (l/2).toNat 0
def sigs(a:Int):List Int->LP->List Int
 |P,[]=>P
 |P,p::r=>sigs a (P++[band .u64 (bGa a P p.1) (bGa a P p.2)]) r
theorem bSm{a:Int}{s s':List Int}{l:Int}(h:s.getD (l/2).toNat 0=s'.getD (l/2).toNat 0):bGa a s l=bGa a s' l:=by unfold bGa;rw[h]
theorem inM.lit{a:Int}{s:List Int}(h:∀x∈s,inM a x){l:Int}(hl:(l/2).toNat<s.length):inM a (bGa a s l):=by
 have hx:inM a (s.getD (l/2).toNat 0):=by
  rw[List.getD_eq_getElem?_getD,List.getElem?_eq_getElem hl]
  exact h _ (List.getElem_mem hl)
 unfold bGa
 split
 .exact hx.not.2
 .exact hx
theorem bPf{a:Int}:∀(As:LP) (g:Nat) (P:List Int),P.length=g->(∀x∈P,inM a x)->okG (g:Int) As=true ->
  P<+:sigs a P As/\(sigs a P As).length=g+As.length/\(∀x∈sigs a P As,inM a x)/\∀(k:Nat) (p:Int×Int),As[k]?=some p->(sigs a P As).getD (g+k) 0=band .u64 (bGa a (sigs a P As) p.1) (bGa a (sigs a P As) p.2)
 |[],g,P,hP,hi,ho=>⟨List.prefix_refl _,by simpa[sigs]using hP,hi,fun k p h=>by simp at h⟩
 |p::r,g,P,hP,hi,ho=>by
  unfold okG at ho
  simp only[Bool.and_eq_true,decide_eq_true_eq]at ho
  obtain⟨⟨⟨o1,o2⟩,o3⟩,o4⟩:=ho
  have b1:=inM.lit hi (l:=p.1) (by omega)
  have b2:=inM.lit hi (l:=p.2) (by omega)
  obtain⟨q1,q2,q3,q4⟩:=bPf r (g+1) (P++[band .u64 (bGa a P p.1) (bGa a P p.2)]) (by simp[hP]) (fun x hx=>by
   rcases List.mem_append.1 hx with hx|hx
   .exact hi x hx
   .rw[List.mem_singleton]at hx;subst hx;exact b1.band b2) (by push_cast;exact o4)
  have e:sigs a P (p::r)=sigs a (P++[band .u64 (bGa a P p.1) (bGa a P p.2)]) r:=rfl
  rw[e]
  generalize hS:sigs a (P++[band .u64 (bGa a P p.1) (bGa a P p.2)]) r=S at q1 q2 q3 q4 ⊢
  have hpre:P<+:S:=(List.prefix_append _ _).trans q1
  have hlow:∀j,j<g->S.getD j 0=P.getD j 0:=fun j hj=>bQ7 hpre (by omega)
  refine⟨hpre,by rw[q2,List.length_cons];omega,q3,fun k z hk=>?_⟩
  cases k with
  |zero=>
   simp only[List.getElem?_cons_zero,Option.some.injEq]at hk
   subst hk
   have h0:S.getD (g+0) 0=band .u64 (bGa a P p.1) (bGa a P p.2):=by
    rw[bQ7 q1 (by simp[hP])]
    simp[List.getD_eq_getElem?_getD,<-hP]
   rw[h0,bSm (s:=S) (s':=P) (hlow _ (by omega)),bSm (s:=S) (s':=P) (hlow _ (by omega))]
  |succ k=>
   have:=q4 k z (by simpa using hk)
   rw[show g+(k+1)=g+1+k by omega]
   exact this
section
variable {all:Int} {gate:Nat} {nv:Int->Int->Option (Bool×Int)} {s:List Int}
end
end
section
variable {I:Int} {Ls As:List (Int×Int)} {Bs Cs:List Int}
theorem cDm{m:Nat}(hm:I+(Ls.length:Int)=m)(hl:m<=1000):bKj I Ls As Bs Cs=some (bDc m):=by
 have w:IntKind.wrap .i64 (I+(Ls.length:Int))=m:=by rw[hm,wr]<;>omega
 have main:(bif (decide ((m:Int)>=6)) then(some (18446744073709551615:Int)) else(bif decide ((m:Int)<0) then(none) else(bif decide ((bshl .u64 (1:Int) (m:Int))<0) then(none) else(some (IntKind.wrap .u64 ((bshl .u64 (1:Int) (bshl .u64 (1:Int) (m:Int)))-(1:Int)))))))=some (bDc m):=by
  unfold bDc
  rw[cd]
  by_cases h:(m:Int)>=6
  .rw[if_pos h,if_pos (by omega)]
  .rw[if_neg h,if_neg (by omega),cd,if_neg (by omega),cd,if_neg]
   have:=(wrU_in (1*2^(min (m:Int).toNat IntKind.u64.bits))).1
   unfold bshl
   omega
 rw[bKj.eq,w]
 exact main
theorem sweep.loop0{m n:Nat}(hm:m<=n)(hn:n<=1000):∀(j k:Nat),k+j=m ->
  bAq.l0 ((m+1:Nat):Int) (linS k) ((k+1:Nat):Int) I Ls As Bs Cs (bDc m) pats (inL m k++List.replicate (n-k) 0)=bAq.l1 ((m+1:Nat):Int) As (As.length:Int) 0 (bDc m) (inL m m++List.replicate (n-m) 0)
 |0,k,hk=>by
  have:k=m:=by omega
  subst this
  rw[bAq.l0_eq,cd,if_neg (by omega)]
 |j+1,k,hk=>by
  have hlt:k<m:=by omega
  have w1:IntKind.wrap .i64 (((m+1:Nat):Int)-1)=m:=by rw[wr]<;>omega
  have w2:IntKind.wrap .i64 (((k+1:Nat):Int)-1)=k:=by rw[wr]<;>omega
  have w3:IntKind.wrap .i64 (((k+1:Nat):Int)+1)=((k+1+1:Nat):Int):=by rw[wr]<;>omega
  have hidx:k+1<(inL m k++List.replicate (n-k) 0).length:=by rw[List.length_append,bKd,List.length_replicate];omega
  have hset:∀x,(inL m k++List.replicate (n-k) 0).set (k+1) x=(inL m k++[x])++List.replicate (n-(k+1)) 0:=fun x=>by
   have:=cDk (P:=inL m k) (k:=n-(k+1)) (x:=x)
   rwa [bKd,show n-(k+1)+1=n-k from by omega]at this
  have hl:linS (k+1)=lin (linS k):=rfl
  have ih:=sweep.loop0 hm hn j (k+1) (by omega)
  rw[bAq.l0_eq,cd,if_pos (by omega),w1,w2,w3,cd]
  by_cases h6:(m:Int)<=6
  .have hp:k<pats.length:=by show k<6;omega
   have hi:inL m (k+1)=inL m k++[band .u64 pats[k] (bDc m)]:=by
    show inL m k++[inp m k]=_
    unfold inp
    rw[if_pos (by omega),List.getD_eq_getElem?_getD,List.getElem?_eq_getElem hp];rfl
   rw[if_pos h6,bCq hp,Option.bind_some,Int.toNat_natCast,List.getElem?_eq_getElem hp,Option.bind_some,bCq hidx,Option.bind_some,Int.toNat_natCast,List.getElem?_eq_getElem hidx,Option.bind_some,hset,<-hi]
   exact ih
  .have hi:inL m (k+1)=inL m k++[lin (linS k)]:=by
    show inL m k++[inp m k]=_
    unfold inp
    rw[if_neg (by omega)];rfl
   rw[if_neg h6,bCq hidx,Option.bind_some,Int.toNat_natCast,List.getElem?_eq_getElem hidx,Option.bind_some,hset]
   rw[hi]at ih
   exact ih
theorem cDf{a:Int}{P Z:List Int}{l:Int}(hl:0<=l/\in64 l)(hi:(l/2).toNat<P.length)(hP:∀x∈P,inM a x):bB3 l (P++Z) a=some (bGa a P l):=by
 have hx:=hP _ (List.getElem_mem hi)
 have h1:geti (P++Z) (l/2)=some P[(l/2).toNat]:=by
  rw[gi' (by omega),List.getElem?_append_left hi,List.getElem?_eq_getElem hi]
 unfold bGa
 rw[bB3.eq,td2 hl.1 hl.2,tm hl.1,ce,h1,List.getD_eq_getElem?_getD,List.getElem?_eq_getElem hi,Option.getD_some]
 by_cases c:l%2=1
 .rw[if_pos c,if_pos c,Option.bind_some,(hx.not).1]
 .rw[if_neg c,if_neg c];rfl
theorem sgates.loop{a:Int}{g:Nat}(h:As.length<=140737488351232/\∀x∈As,in64 x.1/\in64 x.2)(hg:g+As.length<=2000):∀(k i:Nat) (P:List Int),i+k=As.length->P.length=g+i->(∀x∈P,inM a x)->okG ((g+i:Nat):Int) (As.drop i)=true ->
  bAq.l1 (g:Int) As (As.length:Int) (i:Int) a (P++List.replicate k 0)=some (sigs a P (As.drop i),0)
 |0,i,P,hi,hp,hP,ho=>by
  rw[bAq.l1_eq,cd,if_neg (by omega),List.replicate_zero,List.append_nil,List.drop_of_length_le (by omega)]
  rfl
 |k+1,i,P,hi,hp,hP,ho=>by
  have hlt:i<As.length:=by omega
  obtain⟨h1,h2⟩:=h.2 _ (List.getElem_mem hlt)
  rw[drop_cons hlt]at ho
  unfold okG at ho
  simp only[Bool.and_eq_true,decide_eq_true_eq]at ho
  obtain⟨⟨⟨o1,o2⟩,o3⟩,o4⟩:=ho
  have hw:IntKind.wrap .i64 ((i:Int)+1)=((i+1:Nat):Int):=by rw[wr]<;>omega
  have hw2:IntKind.wrap .i64 ((g:Int)+(i:Int))=((g+i:Nat):Int):=by rw[wr]<;>omega
  have x2:=cDf (Z:=List.replicate (k+1) 0) (P:=P) (a:=a) (l:=(As[i]).1) ⟨by omega,h1⟩ (by omega) hP
  have y2:=cDf (Z:=List.replicate (k+1) 0) (P:=P) (a:=a) (l:=(As[i]).2) ⟨o1,h2⟩ (by omega) hP
  have x1:=inM.lit hP (l:=(As[i]).1) (by omega)
  have y1:=inM.lit hP (l:=(As[i]).2) (by omega)
  have hidx:g+i<(P++List.replicate (k+1) 0).length:=by rw[List.length_append,List.length_replicate];omega
  have hset:=cDk (P:=P) (k:=k) (x:=band .u64 (bGa a P (As[i]).1) (bGa a P (As[i]).2))
  rw[hp]at hset
  have ih:=sgates.loop (a:=a) h hg k (i+1) (P++[band .u64 (bGa a P (As[i]).1) (bGa a P (As[i]).2)]) (by omega) (by rw[List.length_append,List.length_singleton];omega) (fun z hz=>by
   rcases List.mem_append.1 hz with hz|hz
   .exact hP z hz
   .rw[List.mem_singleton]at hz;subst hz;exact x1.band y1) (by rw[show((g+(i+1):Nat):Int)=((g+i:Nat):Int)+1 from by omega];exact o4)
  rw[bAq.l1_eq,cd,if_pos (by omega),bCq hlt,Option.bind_some,x2,Option.bind_some,y2,Option.bind_some,hw2,bCq hidx,Option.bind_some,Int.toNat_natCast,List.getElem?_eq_getElem hidx,Option.bind_some,hw,hset,drop_cons hlt]
  exact ih
def sigC(I:Int)(Ls As:LP):List Int:=sigs (bDc (I+(Ls.length:Int)).toNat) (inL (I+(Ls.length:Int)).toNat (I+(Ls.length:Int)).toNat) As
theorem bPg(h:bGi I Ls As Bs Cs)(hc:bCc I Ls As Bs Cs=0):bAq I Ls As Bs Cs=some (sigC I Ls As,0):=by
 obtain⟨k1,⟨k2,k3,_,_⟩,_,_,_,ho⟩:=bBh hc
 obtain⟨m,hm⟩:∃m:Nat,I+(Ls.length:Int)=m:=⟨(I+(Ls.length:Int)).toNat,by omega⟩
 have hm1:m<=1000:=by omega
 have b1:=cDm (As:=As) (Bs:=Bs) (Cs:=Cs) hm hm1
 have hsz:size I Ls As=((m+As.length:Nat):Int):=by unfold size;omega
 have w1:IntKind.wrap .i64 (size I Ls As+1)=((m+As.length+1:Nat):Int):=by rw[hsz,wr]<;>omega
 have w2:IntKind.wrap .i64 (I+(Ls.length:Int))=m:=by rw[hm,wr]<;>omega
 have w3:IntKind.wrap .i64 ((m:Int)+1)=((m+1:Nat):Int):=by rw[wr]<;>omega
 have r1:=sgates.loop (a:=bDc m) (g:=m+1) h.as_ (by omega) As.length 0 (inL m m) (by omega) (bKd m m) (cD5 m (Nat.le_refl _)) (by rw[List.drop_zero,show((m+1+0:Nat):Int)=1+I+(Ls.length:Int) from by omega];exact ho)
 have s1:=sweep.loop0 (I:=I) (Ls:=Ls) (As:=As) (Bs:=Bs) (Cs:=Cs) (m:=m) (n:=m+As.length) (by omega) (by omega) m 0 (by omega)
 rw[show m+As.length-m=As.length from by omega,show m+As.length-0=m+As.length from rfl]at s1
 rw[bAq.eq,bHu h,if_pos hc,Option.bind_some]
 dsimp only
 rw[cn,if_pos rfl,b1,Option.bind_some,w1,bPp (by omega) (by omega),Option.bind_some,if_pos rfl,w2,w3,Int.toNat_natCast]
 rw[List.drop_zero]at r1
 unfold sigC
 rw[show(I+(Ls.length:Int)).toNat=m by omega]
 exact s1.trans r1
theorem bRb(hc:bCc I Ls As Bs Cs=0):∃m:Nat,I+(Ls.length:Int)=m/\m<=1000/\bC3 I Ls=m+1/\sigC I Ls As=sigs (bDc m) (inL m m) As/\okG ((m+1:Nat):Int) As=true /\
  inL m m<+:sigC I Ls As/\(sigC I Ls As).length=m+1+As.length/\m+As.length<=1000/\∀x∈sigC I Ls As,inM (bDc m) x:=by
 obtain⟨k1,⟨k2,k3,_,_⟩,_,_,_,ho⟩:=bBh hc
 obtain⟨m,hm⟩:∃m:Nat,I+(Ls.length:Int)=m:=⟨(I+(Ls.length:Int)).toNat,by omega⟩
 have ho':okG ((m+1:Nat):Int) As=true:=by rw[show((m+1:Nat):Int)=1+I+(Ls.length:Int) from by omega];exact ho
 have e:sigC I Ls As=sigs (bDc m) (inL m m) As:=by unfold sigC;rw[show(I+(Ls.length:Int)).toNat=m by omega]
 obtain⟨q1,q2,q3,_⟩:=bPf As (m+1) (inL m m) (bKd m m) (cD5 m (Nat.le_refl _)) ho'
 refine⟨m,hm,by omega,by unfold bC3;omega,e,ho',by rw[e];exact q1,by rw[e];exact q2,by omega,by rw[e];exact q3⟩
theorem mul1{n:Nat}(hn:n<=3001):bSj 1 (n:Int)=some (0,(n:Int)):=by
 have b1:band .u64 1 4294967295=1:=by decide
 have b2:band .u64 (n:Int) 4294967295=n:=by
  rw[bT9]
  have h2:(U 4294967295)=BitVec.ofNat 64 (2^32-1):=by decide
  have h1:((U (n:Int))&&&U 4294967295).toNat=n:=by
   rw[BitVec.toNat_and]
   have e1:(U (n:Int)).toNat=n:=by have:=cF1 (x:=(n:Int)) (by constructor<;>omega);omega
   have e2:(U 4294967295).toNat=2^32-1:=by decide
   rw[e1,e2,Nat.and_two_pow_sub_one_eq_mod]
   omega
  rw[h1]
 have s0:bshr .u64 1 32=0:=by decide
 have s1:bshr .u64 (n:Int) 32=0:=by
  unfold bshr
  rw[show min (Int.toNat 32) IntKind.u64.bits=32 from rfl,Int.fdiv_eq_ediv_of_nonneg _ (by decide)]
  omega
 have w:IntKind.wrap .u64 (n:Int)=n:=wrU (by constructor<;>omega)
 have z:bshr .u64 0 32=0:=by decide
 have z2:band .u64 0 4294967295=0:=by decide
 have z3:IntKind.wrap .u64 0=0:=by decide
 rw[bSj.eq,bM1.eq,Option.bind_some]
 simp only[b1,b2,s0,s1,Int.one_mul,w,Int.zero_mul,Int.mul_zero,z3,Int.zero_add,Int.add_zero,z,z2]
theorem bX8{g:Int}:∀(l:LP) (k:Nat),okG (g+(k:Int)) l=true->gatB g k l=true
 |[],k,_=>rfl
 |x::r,k,h=>by
  unfold okG at h
  simp only[Bool.and_eq_true,decide_eq_true_eq]at h
  obtain⟨⟨⟨h1,h2⟩,h3⟩,h4⟩:=h
  unfold gatB
  simp only[Bool.and_eq_true,decide_eq_true_eq]
  exact⟨⟨⟨h1,h2⟩,h3⟩,bX8 r (k+1) (by push_cast;rw[show g+((k:Int)+1)=g+(k:Int)+1 by omega];exact h4)⟩
theorem okG_of{g:Int}:∀(l:LP) (k:Nat),(∀(j:Nat) (p:Int×Int),l[j]?=some p->0<=p.2/\p.2<=p.1/\p.1/2<g+((k+j:Nat):Int))->okG (g+(k:Int)) l=true
 |[],k,_=>rfl
 |x::r,k,h=>by
  unfold okG
  simp only[Bool.and_eq_true,decide_eq_true_eq]
  obtain⟨h1,h2,h3⟩:=h 0 x rfl
  refine⟨⟨⟨h1,h2⟩,by simpa using h3⟩,?_⟩
  have:=okG_of (g:=g) r (k+1) (fun j p hp=>by have:=h (j+1) p (by simpa using hp);rw[show k+1+j=k+(j+1) by omega];exact this)
  push_cast at this
  rw[show g+(k:Int)+1=g+((k:Int)+1) by omega]
  exact this
theorem okG_at{g:Int}:∀(l:LP),okG g l=true->∀(k:Nat) (p:Int×Int),l[k]?=some p->0<=p.2/\p.2<=p.1/\p.1/2<g+(k:Int):=fun l h k p hp=>by
 have:=bYq (bX8 (g:=g) l 0 (by simpa using h)) k p hp
 simpa using this
theorem bYc{n:Int}{l:List Int}(h:∀x∈l,litN n x):bYd (n+1) l=true:=by
 unfold bYd
 rw[List.all_eq_true]
 intro x hx
 obtain⟨h1,h2⟩:=h x hx
 simp only[Bool.and_eq_true,decide_eq_true_eq]
 omega
theorem cKu{i:Int}:∀(l:List Int) (v:Nat),(∀(j:Nat) (x:Int),l[j]?=some x -> -1<=x/\x<2*((v+j:Nat):Int)/\(0<=x->i<((v+j:Nat):Int)))->givB i v l=true
 |[],v,_=>rfl
 |x::r,v,h=>by
  unfold givB
  simp only[Bool.and_eq_true,Bool.or_eq_true,decide_eq_true_eq]
  obtain⟨h1,h2,h3⟩:=h 0 x rfl
  refine⟨⟨⟨h1,by simpa using h2⟩,?_⟩,cKu r (v+1) (fun j y hy=>by have:=h (j+1) y (by simpa using hy);rw[show v+1+j=v+(j+1) by omega];exact this)⟩
  by_cases h0:x<0
  .exact .inl h0
  .exact .inr (by simpa using h3 (by omega))
def cBn(I:Int)(Ls As:LP)(g:List Int):Prop:=(g.length:Int)=size I Ls As+1/\∀(v:Nat) (x:Int),g[v]?=some x -> -1<=x/\x<2*(v:Int)/\(0<=x->I<(v:Int))
theorem bRp(h:bGi I Ls As Bs Cs)(hc:bCc I Ls As Bs Cs=0){g:List Int}(hg:cBn I Ls As g):bT5 I Ls As Bs Cs g=true/\BOk g.length (bC3 I Ls) As g:=by
 obtain⟨k1,⟨k2,k3,k4,k5⟩,c1,c2,c3,ho⟩:=bBh hc
 obtain⟨hl,hg⟩:=hg
 have hgate:((bC3 I Ls:Nat):Int)=1+I+Ls.length:=by unfold bC3;omega
 unfold size at hl
 have hlen:g.length=bC3 I Ls+As.length:=by omega
 have ho':okG ((bC3 I Ls:Nat):Int) As=true:=by rw[hgate];exact ho
 have hN:(g.length:Int)=size I Ls As+1:=by unfold size;omega
 refine⟨?_,hlen,fun v hv=>?_,fun k p hp=>okG_at As ho' k p hp,by omega,by omega,rfl,by omega⟩
 .unfold bT5
  simp only[Bool.and_eq_true,decide_eq_true_eq]
  refine⟨⟨⟨⟨⟨⟨⟨by omega,by omega⟩,by omega⟩,by omega⟩,by omega⟩,by omega⟩,hlen⟩,⟨⟨⟨⟨bX8 As 0 (by simpa using ho'),cKu g 0 (fun j x hx=>by have:=hg j x hx;rw[Nat.zero_add];exact this)⟩,?_⟩,?_⟩,?_⟩⟩
  .rw[hN]
   refine bYc fun x hx=>?_
   obtain⟨y,hy,rfl⟩:=List.mem_map.1 hx
   exact(c3 y hy).1
  .rw[hN];exact bYc c1
  .rw[hN];exact bYc c2
 .have:=hg v (g.getD v 0) (by rw[List.getElem?_eq_getElem hv];simp[List.getD,List.getElem?_eq_getElem hv])
  exact⟨this.2.1,this.1⟩
theorem bYk(h:bGi I Ls As Bs Cs)(hc:bCc I Ls As Bs Cs=0){g:List Int}(hg:cBn I Ls As g):bMy I Ls As Bs Cs g=some (cFu I Ls As Bs Cs g):=by
 have hv:=bHu h
 rw[if_pos hc]at hv
 unfold size at hv
 have hask:bCm E (DM E) 44 [bCk I Ls As Bs Cs] [.d (.int .i64),.d (.int .i64)]=some (I+(Ls.length:Int)+(As.length:Int),(0:Int)):=(cF3 (by kernel_rfl)).trans hv
 unfold bMy
 rw[D_hk (k:=cC5) (by kernel_rfl)]
 show bJ7 (bCm E (DM E)) [bCk I Ls As Bs Cs,.d (.list (.int .i64)) g]=_
 show(match bCm E (DM E) 44 [bCk I Ls As Bs Cs] [.d (.int .i64),.d (.int .i64)]with
  |some r=>if(show Int×Int from r)=((I+(Ls.length:Int)+(As.length:Int)),(0:Int))/\bT5 I Ls As Bs Cs g=true then some (cFu I Ls As Bs Cs g) else none
  |none=>none)=_
 rw[hask]
 exact if_pos ⟨rfl,(bRp h hc hg).1⟩
theorem bLp(h:bGi I Ls As Bs Cs)(hc:bCc I Ls As Bs Cs=0):bG1 I Ls As Bs Cs=some (bJ4 I Ls):=by
 obtain⟨k1,⟨k2,k3,k4,k5⟩,_⟩:=bBh hc
 have hv:=bG2 h
 rw[hc]at hv
 have hask:bCm E (DM E) 37 [bCk I Ls As Bs Cs] [.d (.int .i64)]=some (0:Int):=(cF3 (by kernel_rfl)).trans hv
 unfold bG1
 rw[D_hk (k:=cCo) (by kernel_rfl)]
 show(match bCm E (DM E) 37 [bCk I Ls As Bs Cs] [.d (.int .i64)]with
  |some r=>if(show Int from r)=0/\(0<=I/\I<=1000/\Ls.length<=1000) then some (bJ4 I Ls) else none
  |none=>none)=_
 rw[hask]
 exact if_pos ⟨rfl,k1,k2,by omega⟩
noncomputable def nvC(I:Int)(Ls As:LP)(Bs Cs:List Int)(b:Int):Int->Int->Option (Bool×Int):=nvOf (bCm E (DM E)) I Ls As Bs Cs b
theorem bM7(h:bGi I Ls As Bs Cs)(hc:bCc I Ls As Bs Cs=0){b:Int}(hb:0<=b/\b<=100000){m:Nat}(hm:I+(Ls.length:Int)=m):
  bC4 I Ls As Bs Cs b=endG (runG (bDc m) (bC3 I Ls) (nvC I Ls As Bs Cs b) (sigC I Ls As) (sigC I Ls As).length):=by
 obtain⟨k1,⟨k2,k3,k4,k5⟩,_⟩:=bBh hc
 obtain⟨m',hm',s1,s2,s3,s4,s5,s6,s7,s8⟩:=bRb hc
 obtain rfl:m'=m:=by omega
 have a18:bCm E (DM E) 18 [bCk I Ls As Bs Cs] [.own (.int .u64),.d (.int .i64)]=some (sigC I Ls As,(0:Int)):=(cF3 (by kernel_rfl)).trans (bPg h hc)
 have a32:bCm E (DM E) 32 [bCk I Ls As Bs Cs] [.d (.int .u64)]=some (bDc m'):=(cF3 (by kernel_rfl)).trans (cDm hm s1)
 have a55:bCm E (DM E) 55 [.d (.int .u64) (1:Int),.d (.int .u64) (((sigC I Ls As).length:Nat):Int)] [.d (.int .u64),.d (.int .u64)]=some ((0:Int),((sigC I Ls As).length:Int)):=(cF3 (by kernel_rfl)).trans (mul1 (by omega))
 have hB:bQb I Ls As b (sigC I Ls As)=true:=by
  unfold bQb
  simp only[Bool.and_eq_true,decide_eq_true_eq,List.all_eq_true]
  exact⟨⟨⟨⟨⟨⟨⟨k1,k2⟩,by omega⟩,hb.1⟩,hb.2⟩,by omega⟩,by omega⟩,fun x hx=>by have:=(s8 x hx).1;unfold w64 at this;omega⟩
 unfold bC4
 rw[D_hk (k:=cAr) (by kernel_rfl)]
 show(match bCm E (DM E) 18 [bCk I Ls As Bs Cs] [.own (.int .u64),.d (.int .i64)]with
  |some r1=>if(show List Int×Int from r1).2≠0 then some ([],(show List Int×Int from r1).2) else if b<0\/100000<b then some ([],2) else match bCm E (DM E) 32 [bCk I Ls As Bs Cs] [.d (.int .u64)]with
   |some r2=>match bCm E (DM E) 55 [.d (.int .u64) (1:Int),.d (.int .u64) (((show List Int×Int from r1).1.length:Nat):Int)] [.d (.int .u64),.d (.int .u64)]with
    |some r3=>if(show List Int×Int from r1).2=0/\(show Int×Int from r3)=((0:Int),((show List Int×Int from r1).1.length:Int))/\bQb I Ls As b (show List Int×Int from r1).1=true then
      endG (runG r2 (bC3 I Ls) (nvC I Ls As Bs Cs b) (show List Int×Int from r1).1 (show List Int×Int from r1).1.length) else none
    |none=>none
   |none=>none
  |none=>none)=_
 rw[a18]
 show(if(0:Int)≠0 then some ([],(0:Int)) else if b<0\/100000<b then some ([],2) else match bCm E (DM E) 32 [bCk I Ls As Bs Cs] [.d (.int .u64)]with
   |some r2=>match bCm E (DM E) 55 [.d (.int .u64) (1:Int),.d (.int .u64) (((sigC I Ls As).length:Nat):Int)] [.d (.int .u64),.d (.int .u64)]with
    |some r3=>if(0:Int)=0/\(show Int×Int from r3)=((0:Int),((sigC I Ls As).length:Int))/\bQb I Ls As b (sigC I Ls As)=true then
      endG (runG r2 (bC3 I Ls) (nvC I Ls As Bs Cs b) (sigC I Ls As) (sigC I Ls As).length) else none
    |none=>none
   |none=>none)=_
 rw[if_neg (by simp),if_neg (by omega),a32,a55]
 exact if_pos ⟨rfl,rfl,hB⟩
theorem sigs_bad(h:bGi I Ls As Bs Cs)(hc:bCc I Ls As Bs Cs≠0):bAq I Ls As Bs Cs=some ([],bCc I Ls As Bs Cs):=by
 rw[bAq.eq,bHu h,if_neg hc,Option.bind_some]
 dsimp only
 rw[cn,if_neg hc]
theorem sweep_Given_bad(h:bGi I Ls As Bs Cs)(b:Int)(hc:bCc I Ls As Bs Cs≠0):bC4 I Ls As Bs Cs b=some ([],bCc I Ls As Bs Cs):=by
 have a18:bCm E (DM E) 18 [bCk I Ls As Bs Cs] [.own (.int .u64),.d (.int .i64)]=some (([]:List Int),bCc I Ls As Bs Cs):=(cF3 (by kernel_rfl)).trans (sigs_bad h hc)
 unfold bC4
 rw[D_hk (k:=cAr) (by kernel_rfl)]
 show(match bCm E (DM E) 18 [bCk I Ls As Bs Cs] [.own (.int .u64),.d (.int .i64)]with
  |some r1=>if(show List Int×Int from r1).2≠0 then some ([],(show List Int×Int from r1).2) else if b<0\/100000<b then some ([],2) else match bCm E (DM E) 32 [bCk I Ls As Bs Cs] [.d (.int .u64)]with
   |some r2=>match bCm E (DM E) 55 [.d (.int .u64) (1:Int),.d (.int .u64) (((show List Int×Int from r1).1.length:Nat):Int)] [.d (.int .u64),.d (.int .u64)]with
    |some r3=>if(show List Int×Int from r1).2=0/\(show Int×Int from r3)=((0:Int),((show List Int×Int from r1).1.length:Int))/\bQb I Ls As b (show List Int×Int from r1).1=true then
      endG (runG r2 (bC3 I Ls) (nvC I Ls As Bs Cs b) (show List Int×Int from r1).1 (show List Int×Int from r1).1.length) else none
    |none=>none
   |none=>none
  |none=>none)=_
 rw[a18]
 exact if_pos hc
theorem cJc(h:bGi I Ls As Bs Cs)(hc:bCc I Ls As Bs Cs=0){b:Int}(hb:b<0\/100000<b):bC4 I Ls As Bs Cs b=some ([],2):=by
 have a18:bCm E (DM E) 18 [bCk I Ls As Bs Cs] [.own (.int .u64),.d (.int .i64)]=some (sigC I Ls As,(0:Int)):=(cF3 (by kernel_rfl)).trans (bPg h hc)
 unfold bC4
 rw[D_hk (k:=cAr) (by kernel_rfl)]
 show(match bCm E (DM E) 18 [bCk I Ls As Bs Cs] [.own (.int .u64),.d (.int .i64)]with
  |some r1=>if(show List Int×Int from r1).2≠0 then some ([],(show List Int×Int from r1).2) else if b<0\/100000<b then some ([],2) else match bCm E (DM E) 32 [bCk I Ls As Bs Cs] [.d (.int .u64)]with
   |some r2=>match bCm E (DM E) 55 [.d (.int .u64) (1:Int),.d (.int .u64) (((show List Int×Int from r1).1.length:Nat):Int)] [.d (.int .u64),.d (.int .u64)]with
    |some r3=>if(show List Int×Int from r1).2=0/\(show Int×Int from r3)=((0:Int),((show List Int×Int from r1).1.length:Int))/\bQb I Ls As b (show List Int×Int from r1).1=true then
      endG (runG r2 (bC3 I Ls) (nvC I Ls As Bs Cs b) (show List Int×Int from r1).1 (show List Int×Int from r1).1.length) else none
    |none=>none
   |none=>none
  |none=>none)=_
 rw[a18]
 exact(if_neg (by simp)).trans (if_pos hb)
end
section
variable {I:Int} {Ls As:List (Int×Int)} {Bs Cs:List Int}
abbrev bT(I:Int)(Ls As:LP)(g:List Int):List Int:=(bNg I Ls As g).1
abbrev bLs(I:Int)(Ls As:LP)(g:List Int):LP:=Ls.map fun x=>(atT (bT I Ls As g) x.1,x.2)
abbrev bAs(I:Int)(Ls As:LP)(g:List Int):LP:=(bNg I Ls As g).2
abbrev bL(I:Int)(Ls As:LP)(g:List Int)(l:List Int):List Int:=l.map (atT (bT I Ls As g))
theorem atT_lit{t:List Int}{x:Int}{n:Nat}(h:0<=t.getD (x/2).toNat 0/\t.getD (x/2).toNat 0/2<(n:Int)):0<=atT t x/\atT t x/2<(n:Int):=by
 unfold atT bS7
 split
 .exact h
 .unfold negI
  split<;>omega
theorem cLg(h:bGi I Ls As Bs Cs)(hc:bCc I Ls As Bs Cs=0){g:List Int}(hg:cBn I Ls As g){x:Int}(hx:litN (size I Ls As) x):litN (size I (bLs I Ls As g) (bAs I Ls As g)) (atT (bT I Ls As g) x):=by
 obtain⟨k1,_⟩:=bBh hc
 obtain⟨_,hK⟩:=bRp h hc hg
 have hl:=hg.1
 have:=atT_lit (x:=x) ((cBd hK g.length (Nat.le_refl _)).1 (x/2).toNat (by unfold litN at hx;omega))
 have hgate:((bC3 I Ls:Nat):Int)=1+I+Ls.length:=by unfold bC3;omega
 refine⟨this.1,?_⟩
 have h2:atT (bT I Ls As g) x/2<((bC3 I Ls+(bAs I Ls As g).length:Nat):Int):=this.2
 unfold size
 rw[List.length_map]
 omega
theorem cHx(h:bGi I Ls As Bs Cs)(hc:bCc I Ls As Bs Cs=0){g:List Int}(hg:cBn I Ls As g):
  bGi I (bLs I Ls As g) (bAs I Ls As g) (bL I Ls As g Bs) (bL I Ls As g Cs)/\bCc I (bLs I Ls As g) (bAs I Ls As g) (bL I Ls As g Bs) (bL I Ls As g Cs)=0/\(bAs I Ls As g).length<=As.length:=by
 obtain⟨k1,⟨k2,k3,k4,k5⟩,c1,c2,c3,ho⟩:=bBh hc
 obtain⟨_,hK⟩:=bRp h hc hg
 have hfew:(bAs I Ls As g).length<=As.length:=cLh hK
 have hgate:((bC3 I Ls:Nat):Int)=1+I+Ls.length:=by unfold bC3;omega
 have hsz:size I (bLs I Ls As g) (bAs I Ls As g)<=1000:=by unfold size;rw[List.length_map];omega
 have hlit:∀x,litN (size I Ls As) x->litN (size I (bLs I Ls As g) (bAs I Ls As g)) (atT (bT I Ls As g) x):=fun x hx=>cLg h hc hg hx
 have hgates:=(cBd hK g.length (Nat.le_refl _)).2
 have in_of:∀x,litN (size I (bLs I Ls As g) (bAs I Ls As g)) x->in64 x:=fun x hx=>by unfold litN at hx;unfold in64;omega
 have d1:∀x∈bL I Ls As g Bs,litN (size I (bLs I Ls As g) (bAs I Ls As g)) x:=fun x hx=>by obtain⟨y,hy,rfl⟩:=List.mem_map.1 hx;exact hlit y (c1 y hy)
 have d2:∀x∈bL I Ls As g Cs,litN (size I (bLs I Ls As g) (bAs I Ls As g)) x:=fun x hx=>by obtain⟨y,hy,rfl⟩:=List.mem_map.1 hx;exact hlit y (c2 y hy)
 have d3:∀x∈bLs I Ls As g,latN (size I (bLs I Ls As g) (bAs I Ls As g)) x:=fun x hx=>by obtain⟨y,hy,rfl⟩:=List.mem_map.1 hx;exact⟨hlit y.1 (c3 y hy).1,(c3 y hy).2⟩
 have d4:okG (1+I+((bLs I Ls As g).length:Int)) (bAs I Ls As g)=true:=by
  rw[List.length_map,<-hgate]
  have:=okG_of (g:=((bC3 I Ls:Nat):Int)) (bAs I Ls As g) 0 (fun j p hp=>by have:=hgates j p hp;rw[Nat.zero_add];push_cast at this;exact⟨this.1,by omega,this.2.2⟩)
  simpa using this
 refine⟨⟨h.i,⟨by rw[List.length_map];omega,fun x hx=>⟨in_of _ (d3 x hx).1,by have:=(d3 x hx).2;unfold in64;omega⟩⟩,⟨by omega,fun x hx=>?_⟩,⟨by rw[List.length_map];omega,fun x hx=>in_of _ (d1 x hx)⟩,⟨by rw[List.length_map];omega,fun x hx=>in_of _ (d2 x hx)⟩⟩,?_,hfew⟩
 .obtain⟨k,hk⟩:=List.getElem?_of_mem hx
  have:=hgates k x hk
  have hk2:k<(bAs I Ls As g).length:=(List.getElem?_eq_some_iff.1 hk).1
  unfold in64
  omega
 .unfold bCc
  rw[if_neg (by omega),if_pos ⟨k2,by rw[List.length_map];omega,by rw[List.length_map];exact k4,by rw[List.length_map];exact k5⟩,if_pos ⟨d1,d2,d3,d4⟩]
theorem bR3(h:bGi I Ls As Bs Cs)(hc:bCc I Ls As Bs Cs=0){b:Int}(hb:0<=b/\b<=100000){g:List Int}(hg:cBn I Ls As g)(hG:bC4 I Ls As Bs Cs b=some (g,0)):
  bFz I Ls As Bs Cs b=some (((I,bLs I Ls As g,bAs I Ls As g,bL I Ls As g Bs,bL I Ls As g Cs),(bJ4 I (bLs I Ls As g)).1),0):=by
 obtain⟨h',hc',hf⟩:=cHx h hc hg
 have n1:=h'.ls.1;have n2:=h'.as_.1;have n3:=h'.bs.1;have n4:=h'.cs.1
 have e:bMy I Ls As Bs Cs g=some ((I,bLs I Ls As g,bAs I Ls As g,bL I Ls As g Bs,bL I Ls As g Cs),bT I Ls As g,0):=bYk h hc hg
 obtain⟨_,⟨_,f1,f2,f3⟩,_⟩:=bBh hc'
 obtain⟨q1,_⟩:=bBh hc
 rw[bFz.eq,bG2 h,Option.bind_some,hc,cn,if_pos rfl,cd,if_neg (by omega),cd,if_neg (by omega),hG,Option.bind_some]
 dsimp only
 rw[ce,if_pos rfl,e,Option.bind_some]
 dsimp only
 rw[bLp h' hc',Option.bind_some,bCi (by simp only[List.length_nil];omega),Option.bind_some,bCi (by simp only[List.length_nil];omega),Option.bind_some,bCi (by simp only[List.length_nil];omega),Option.bind_some,bCi (by simp only[List.length_nil];omega),Option.bind_some]
 rfl
end
section
variable {I:Int} {Ls As:List (Int×Int)} {Bs Cs:List Int}
theorem nvC_eq{b x y:Int}:nvC I Ls As Bs Cs b x y=bBg I Ls As Bs Cs x y b:=by
 unfold nvC nvOf bBg
 exact cF3 (by kernel_rfl)
end
section
theorem cDn.loop{a:List Int}(hn:a.length<=100000):∀(n i:Nat),i+n=a.length->bAe.l0 a a (i:Int)=some true
 |0,i,hi=>by rw[bAe.l0_eq,cd,if_neg (by omega)]
 |n+1,i,hi=>by
  have hlt:i<a.length:=by omega
  have hw:IntKind.wrap .i64 ((i:Int)+1)=((i+1:Nat):Int):=by rw[wr]<;>omega
  rw[bAe.l0_eq,cd,if_pos (by omega),bCq hlt,Option.bind_some,Option.bind_some,cn,if_pos rfl,hw,cDn.loop hn n (i+1) (by omega)]
theorem bK5{a:List Int}(hn:a.length<=100000):bAe a a=some true:=by
 rw[bAe.eq,cn,if_pos rfl]
 exact cDn.loop hn a.length 0 (by omega)
section
variable {I:Int} {Ls As:List (Int×Int)} {Bs Cs:List Int}
end
end
section
def chA:LP:=[(4,2),(5,2),(9,7)]
theorem cFq:bGi 2 [] chA [10] []:=by
 refine⟨by unfold in64;omega,⟨by simp,by simp⟩,⟨by simp[chA],?_⟩,⟨by simp,?_⟩,⟨by simp,by simp⟩⟩
 .intro x hx
  simp only[chA,List.mem_cons,List.not_mem_nil,or_false]at hx
  rcases hx with rfl|rfl|rfl<;>exact⟨by unfold in64;omega,by unfold in64;omega⟩
 .intro x hx
  simp only[List.mem_cons,List.not_mem_nil,or_false]at hx
  subst hx
  unfold in64;omega
theorem cFr:bCc 2 [] chA [10] []=0:=by decide
theorem ch_run(nv:Int->Int->Option (Bool×Int)):endG (runG (bDc 2) (bC3 2 []) nv (sigC 2 [] chA) (sigC 2 [] chA).length)=some ([-1,-1,-1,-1,-1,3],0):=by kernel_rfl
theorem cNp{b:Int}(hb:0<=b/\b<=100000):bC4 2 [] chA [10] [] b=some ([-1,-1,-1,-1,-1,3],0):=by
 rw[bM7 cFq cFr hb (m:=2) (by simp)]
 exact ch_run _
theorem ch_ok:cBn 2 [] chA [-1,-1,-1,-1,-1,3]:=by
 refine⟨by decide,fun v x hx=>?_⟩
 have hv:v<6:=(List.getElem?_eq_some_iff.1 hx).1
 have:v=0\/v=1\/v=2\/v=3\/v=4\/v=5:=by omega
 rcases this with rfl|rfl|rfl|rfl|rfl|rfl<;>simp at hx<;>subst hx<;>omega
theorem cHv:bCh=some true:=by
 have e:bBj=some ((2:Int),([]:LP),chA,[10],[]):=bBj.eq
 have g0:=cNp (b:=0) (by omega)
 have p0:=bR3 cFq cFr (b:=0) (by omega) ch_ok g0
 have l1:(bAs 2 [] chA [-1,-1,-1,-1,-1,3]).length=2:=by kernel_rfl
 have l2:bL 2 [] chA [-1,-1,-1,-1,-1,3] [10]=[3]:=by kernel_rfl
 rw[l2]at p0
 rw[bCh.eq,e,Option.bind_some]
 dsimp only
 rw[g0,Option.bind_some,Option.bind_some]
 dsimp only
 rw[p0,Option.bind_some]
 dsimp only
 rw[ce,if_pos rfl,bK5 (by decide),Option.bind_some,ct,ce,if_pos rfl,ce,if_pos (by rw[l1];rfl),bK5 (by decide),Option.bind_some]
section
variable {I:Int} {Ls As:List (Int×Int)} {Bs Cs:List Int}
end
end
section
variable {I:Int} {Ls As:List (Int×Int)} {Bs Cs:List Int} {f n:Nat}
end
section
variable {V:List Bool} {s:Int} {b:Int} {L A:List (Int×Int)} {P Q:List Int}
end
section
variable {I:Int} {Ls As:List (Int×Int)} {Bs Cs:List Int}
theorem cLz(h:bGi I Ls As Bs Cs)(hc:bCc I Ls As Bs Cs=0){b:Int}(hb:b<0\/100000<b):∃r,bFz I Ls As Bs Cs b=some (r,2):=by
 rw[bFz.eq,bG2 h,Option.bind_some,hc,cn,if_pos rfl,cd]
 by_cases h0:b<0
 .rw[if_pos h0];exact⟨_,rfl⟩
 .rw[if_neg h0,cd,if_pos (by omega)];exact⟨_,rfl⟩
end
section
def wdA:LP:=[(4,2),(16,6),(6,4),(20,2)]
def wdL:List (List Int):=[[4,9],[2,9],[3,5,8],[8,11],[6,11],[7,9,10],[6,13],[4,13],[5,7,12],[12,15],[2,15],[3,13,14]]
def wdR:List Int:=[0,2,4,6,-1,-1,-1,-1,8,10,12,14]
theorem wd_sized:bGi 7 [] wdA [23] []:=by
 refine⟨by unfold in64;omega,⟨by simp,by simp⟩,⟨by simp[wdA],?_⟩,⟨by simp,?_⟩,⟨by simp,by simp⟩⟩
 .intro x hx
  simp only[wdA,List.mem_cons,List.not_mem_nil,or_false]at hx
  rcases hx with rfl|rfl|rfl|rfl<;>exact⟨by unfold in64;omega,by unfold in64;omega⟩
 .intro x hx
  simp only[List.mem_cons,List.not_mem_nil,or_false]at hx
  subst hx
  unfold in64;omega
theorem wd_check:bCc 7 [] wdA [23] []=0:=by decide
def wdT:List (Int×Int):=match runG (bDc 7) 8 (fun _ _=>none) (sigC 7 [] wdA) 11 with
 |some (.inr st)=>st.2
 |_=>[]
theorem wd_eleven(nv:Int->Int->Option (Bool×Int)):runG (bDc 7) 8 nv (sigC 7 [] wdA) 11=some (.inr ([-1,-1,-1,-1,-1,-1,-1,-1,-1,-1,-1],wdT)):=by kernel_rfl
theorem wd_look:bPr wdT (bGx (bDc 7) ((sigC 7 [] wdA).getD 11 0))=some 9:=by kernel_rfl
theorem wd_lit:litG (sigC 7 [] wdA) 9 ((sigC 7 [] wdA).getD 11 0)=18:=by kernel_rfl
theorem runG_at{all:Int}{gate:Nat}{nv:Int->Int->Option (Bool×Int)}{s:List Int}{n:Nat}{st:List Int×List (Int×Int)}(h:runG all gate nv s n=some (.inr st)):runG all gate nv s (n+1)=stepG all gate nv s st:=by simp only[runG,h]
theorem stepG_at{all:Int}{gate:Nat}{nv:Int->Int->Option (Bool×Int)}{s:List Int}{n:Nat}{st:List Int×List (Int×Int)}{u l:Int}(hn:st.1.length=n)(hu:bPr st.2 (bGx all (s.getD n 0))=some u)(hg:¬n<gate)(h7:¬gate<=7)(hl:litG s u (s.getD n 0)=l)(hs:bQm nv (n:Int) l=some (true,0)):
  stepG all gate nv s st=some (.inr (st.1++[l],st.2)):=by
 subst hn
 unfold stepG
 rw[hu]
 dsimp only
 rw[if_neg hg,if_neg h7,hl,hs]
 dsimp only
 rw[if_pos rfl,if_pos rfl]
theorem wd_run(nv:Int->Int->Option (Bool×Int))(h1:nv 22 19=some (true,0))(h2:nv 23 18=some (true,0)):
  endG (runG (bDc 7) (bC3 7 []) nv (sigC 7 [] wdA) (sigC 7 [] wdA).length)=some ([-1,-1,-1,-1,-1,-1,-1,-1,-1,-1,-1,18],0):=by
 have hl:(sigC 7 [] wdA).length=11+1:=by kernel_rfl
 have hs:bQm nv 11 18=some (true,0):=by
  unfold bQm
  rw[show(2*(11:Int))=22 from rfl,show negI 18=19 by decide,h1]
  dsimp only
  rw[if_pos ⟨rfl,rfl⟩]
  exact h2
 rw[hl,show bC3 7 []=8 from rfl]
 have e1:=runG_at (wd_eleven nv)
 have e2:=stepG_at (all:=bDc 7) (gate:=8) (nv:=nv) (s:=sigC 7 [] wdA) (n:=11) (st:=([-1,-1,-1,-1,-1,-1,-1,-1,-1,-1,-1],wdT)) rfl wd_look (by omega) (by omega) wd_lit hs
 exact congrArg endG (e1.trans e2)
section
variable {I:Int} {Ls As:List (Int×Int)} {Bs Cs:List Int}
theorem never_is(h:bGi I Ls As Bs Cs)(hc:bCc I Ls As Bs Cs=0){a b bud v:Int}{R:List Int}{L:List (List Int)}(hr:∀l∈[a,b],in64 l)(hl:∀l∈[a,b],litN (size I Ls As) l)(e:tsC I Ls As [a,b]=(v,([R],L)))
  {ja jb:Int} (hra:(a/2).toNat<R.length) (hja:R.getD (a/2).toNat 0=2*ja) (h1:1<=ja/\ja<=1000000) (hrb:(b/2).toNat<R.length) (hjb:R.getD (b/2).toNat 0=2*jb) (h2:1<=jb/\jb<=1000000) (ha:1<a/\a<=1000000) (hb:1<b/\b<=1000000)
  {p q:Int} (hp:litR R a=p) (hq:litR R b=q) {x:Ansr} (hrun:bGy v L [p,q] bud=some (x,0)):bBg I Ls As Bs Cs a b bud=some (!x.1,0):=by
 have la:1<p:=by rw[<-hp];unfold litR;rw[hja];omega
 have lb:1<q:=by rw[<-hq];unfold litR;rw[hjb];omega
 have s0:=never.step (bud:=bud) (v:=v) (ls:=[a,b]) (A:=[]) (R:=R) (L:=L) (i:=0) (y:=a) (j:=ja) (by simp) (by simp) rfl ⟨by omega,by omega⟩ hra hja ⟨by omega,by omega⟩ (fun h=>by omega) (by simp)
 have s1:=never.step (bud:=bud) (v:=v) (ls:=[a,b]) (A:=[p]) (R:=R) (L:=L) (i:=1) (y:=b) (j:=jb) (by simp) (by simp) rfl ⟨by omega,by omega⟩ hrb hjb ⟨by omega,by omega⟩ (fun h=>by omega) (by simp)
 have he:=cKb (bud:=bud) (v:=v) (ls:=[a,b]) (A:=[p,q]) (rs:=[R]) (L:=L)
 rw[show((0:Nat):Int)=0 from rfl,hp,if_neg (by omega),if_pos la,List.nil_append]at s0
 rw[hq,if_neg (by omega),if_pos lb,show[p]++[q]=[p,q] from rfl,show(((1:Nat)+1:Nat):Int)=(([a,b]:List Int).length:Int) from rfl,he,hrun,Option.bind_some]at s1
 rw[bBg.eq,tsOf_ok h (by simp) hr hc hl e,Option.bind_some]
 dsimp only
 rw[cn,if_pos rfl,s0]
 exact s1.trans (if_pos rfl)
theorem sweep_Pass_bad(h:bGi I Ls As Bs Cs)(b:Int)(hc:bCc I Ls As Bs Cs≠0):∃r,bFz I Ls As Bs Cs b=some (r,bCc I Ls As Bs Cs):=by
 rw[bFz.eq,bG2 h,Option.bind_some,cn,if_neg hc]
 exact⟨_,rfl⟩
end
theorem wd_okL:okL 7 wdL:=by decide
theorem wd_okA1:okA 7 [14,11] []:=⟨by decide,by decide,by decide,by decide,by decide⟩
theorem wd_okA2:okA 7 [15,10] []:=⟨by decide,by decide,by decide,by decide,by decide⟩
theorem wd_sol1:solAR 7 [14,11] wdL=(false,[],[[10,15]],0):=by
 show solA 7 [14,11] (1031+1) _ _ _ _=_
 rw[solA_want (T:=[]) (l:=14) (by decide) (by decide) (by decide),solA_under (T:=[14,12,6,4,2,8,10]) (l:=11) (c:=[10,15]) (by decide) (by decide) (by decide) (lrn_is (o:=[14,11]) (by decide) (by decide) (by decide) (fun y=>by simp[neg];omega))];rfl
theorem wd_sol2:solAR 7 [15,10] wdL=(false,[],[[11,14],[11,14]],1):=by
 show solA 7 [15,10] (1031+1) _ _ _ _=_
 rw[solA_want (T:=[]) (l:=15) (by decide) (by decide) (by decide),solA_want (T:=[15]) (l:=10) (by decide) (by decide) (by decide),
  solA_con (T:=[15,10,8,4,2,6,12]) (i:=11) (c:=[11,14]) (t':=[15,11]) (s':=[0]) (by decide) (by decide) (lrn_is (o:=[15,10]) (by decide) (by decide) (by decide) (fun y=>by simp[neg];omega)) (by simp) (by decide),
  solA_under (T:=[15,11]) (l:=10) (c:=[11,14]) (by decide) (by decide) (by decide) (lrn_is (o:=[15,10]) (by decide) (by decide) (by decide) (fun y=>by simp[neg];omega))];rfl
theorem wd_never1:bBg 7 [] wdA [23] [] 22 19 100=some (true,0):=by
 have e:tsC 7 [] wdA [22,19]=(7,([wdR],wdL)):=by kernel_rfl
 have r:=assume_run (b:=100) wd_okA1 (by decide) wd_okL (by decide) ⟨by rw[wd_sol1];decide,by omega⟩
 have n:=never_is (bud:=100) wd_sized wd_check (by decide) (by decide) e (ja:=7) (jb:=5) (by decide) (by decide) (by decide) (by decide) (by decide) (by decide) (by decide) (by decide) (show litR wdR 22=14 by decide) (show litR wdR 19=11 by decide) r
 rw[n,show(ansA 7 [14,11] wdL).1=(solAR 7 [14,11] wdL).1 from rfl,wd_sol1];rfl
theorem wd_never2:bBg 7 [] wdA [23] [] 23 18 100=some (true,0):=by
 have e:tsC 7 [] wdA [23,18]=(7,([wdR],wdL)):=by kernel_rfl
 have r:=assume_run (b:=100) wd_okA2 (by decide) wd_okL (by decide) ⟨by rw[wd_sol2];decide,by omega⟩
 have n:=never_is (bud:=100) wd_sized wd_check (by decide) (by decide) e (ja:=7) (jb:=5) (by decide) (by decide) (by decide) (by decide) (by decide) (by decide) (by decide) (by decide) (show litR wdR 23=15 by decide) (show litR wdR 18=10 by decide) r
 rw[n,show(ansA 7 [15,10] wdL).1=(solAR 7 [15,10] wdL).1 from rfl,wd_sol2];rfl
theorem wd_given:bC4 7 [] wdA [23] [] 100=some ([-1,-1,-1,-1,-1,-1,-1,-1,-1,-1,-1,18],0):=by
 rw[bM7 wd_sized wd_check (by omega) (m:=7) (by simp)]
 exact wd_run _ (nvC_eq.trans wd_never1) (nvC_eq.trans wd_never2)
theorem wd_ok:cBn 7 [] wdA [-1,-1,-1,-1,-1,-1,-1,-1,-1,-1,-1,18]:=by
 refine⟨by decide,fun v x hx=>?_⟩
 have hv:v<12:=(List.getElem?_eq_some_iff.1 hx).1
 have:v=0\/v=1\/v=2\/v=3\/v=4\/v=5\/v=6\/v=7\/v=8\/v=9\/v=10\/v=11:=by omega
 rcases this with rfl|rfl|rfl|rfl|rfl|rfl|rfl|rfl|rfl|rfl|rfl|rfl<;>simp at hx<;>subst hx<;>omega
theorem bad_sized:bGi (-1) [] [] [] []:=sized_small (by decide) (by simp) (by simp) (by simp) (by simp)
theorem bad_check:bCc (-1) [] [] [] []=8:=by decide
theorem ch_sigs:sigC 2 [] chA=[0,10,12,8,2,5]:=by kernel_rfl
theorem wd_sig:∃s,sigC 7 [] wdA=s/\s.length=12/\geti s 1=some 7806831264735756412/\s[Int.toNat 1]?=some 7806831264735756412/\∃y,geti s 9=some y/\s[Int.toNat 9]?=some y/\geti s 11=some y/\s[Int.toNat 11]?=some y:=
 ⟨_,rfl,by kernel_rfl,by kernel_rfl,by kernel_rfl,(sigC 7 [] wdA).getD 9 0,by kernel_rfl,by kernel_rfl,by kernel_rfl,by kernel_rfl⟩
theorem SweepNames_pure:spiritlevellaw29_SweepNames=some true:=by
 have ech:bBj=some ((2:Int),([]:LP),chA,[10],[]):=bBj.eq
 have ewd:spiritlevellaw29_wide=some ((7:Int),([]:LP),wdA,[23],[]):=spiritlevellaw29_wide.eq
 have hbad:bCc (-1) [] [] [] []≠0:=by decide
 have e1:=sigs_bad bad_sized hbad
 have e2:=sweep_Given_bad bad_sized (-1) hbad
 obtain⟨r3,e3⟩:=sweep_Pass_bad bad_sized (-1) hbad
 have e5:=cJc cFq cFr (b:=-1) (by omega)
 obtain⟨r7,e7⟩:=cLz cFq cFr (b:=100001) (by omega)
 have e9:=bPg cFq cFr
 have e11:=bPg wd_sized wd_check
 obtain⟨s,hs,s1,s2,s3,y,s4,s5,s6,s7⟩:=wd_sig
 have e15:=bR3 wd_sized wd_check (b:=100) (by omega) wd_ok wd_given
 have l1:(bAs 7 [] wdA [-1,-1,-1,-1,-1,-1,-1,-1,-1,-1,-1,18]).length=3:=by kernel_rfl
 have l2:bL 7 [] wdA [-1,-1,-1,-1,-1,-1,-1,-1,-1,-1,-1,18] [23]=[19]:=by kernel_rfl
 rw[bad_check]at e1 e2 e3
 rw[ch_sigs]at e9
 rw[hs]at e11
 rw[l2]at e15
 rw[spiritlevellaw29_SweepNames.eq,e1,Option.bind_some,e2,Option.bind_some,e3,Option.bind_some,ech,Option.bind_some]
 dsimp only
 rw[e5,Option.bind_some,Option.bind_some]
 dsimp only
 rw[e7,Option.bind_some,Option.bind_some]
 dsimp only
 rw[e9,Option.bind_some,ewd,Option.bind_some]
 dsimp only
 rw[e11,Option.bind_some,Option.bind_some]
 dsimp only
 rw[wd_given,Option.bind_some,Option.bind_some]
 dsimp only
 rw[e15,Option.bind_some]
 dsimp only
 rw[cn,if_pos (show((([0,10,12,8,2,5]:List Int).length:Nat):Int)=6 from rfl),cn,if_pos (by rw[s1];rfl),cn,if_pos (show((([-1,-1,-1,-1,-1,-1,-1,-1,-1,-1,-1,18]:List Int).length:Nat):Int)=12 from rfl),show geti ([0,10,12,8,2,5]:List Int) 0=some 0 from rfl,Option.bind_some,show([0,10,12,8,2,5]:List Int)[Int.toNat 0]?=some 0 from rfl,Option.bind_some,ce,if_pos rfl,
  show geti ([0,10,12,8,2,5]:List Int) 1=some 10 from rfl,Option.bind_some,show([0,10,12,8,2,5]:List Int)[Int.toNat 1]?=some 10 from rfl,Option.bind_some,ce,if_pos rfl,
  show geti ([0,10,12,8,2,5]:List Int) 2=some 12 from rfl,Option.bind_some,show([0,10,12,8,2,5]:List Int)[Int.toNat 2]?=some 12 from rfl,Option.bind_some,ce,if_pos rfl,
  show geti ([0,10,12,8,2,5]:List Int) 3=some 8 from rfl,Option.bind_some,show([0,10,12,8,2,5]:List Int)[Int.toNat 3]?=some 8 from rfl,Option.bind_some,ce,if_pos rfl,
  show geti ([0,10,12,8,2,5]:List Int) 4=some 2 from rfl,Option.bind_some,show([0,10,12,8,2,5]:List Int)[Int.toNat 4]?=some 2 from rfl,Option.bind_some,
  spiritlevellaw29_SweepNames.m0_eq,ce,if_pos rfl,show geti ([0,10,12,8,2,5]:List Int) 5=some 5 from rfl,Option.bind_some,show([0,10,12,8,2,5]:List Int)[Int.toNat 5]?=some 5 from rfl,Option.bind_some,ce,if_pos rfl,
  s2,Option.bind_some,s3,Option.bind_some,ce,if_pos rfl,s4,Option.bind_some,s5,Option.bind_some,s6,Option.bind_some,s7,Option.bind_some,cHv,Option.bind_some,spiritlevellaw29_SweepNames.m5_eq,ct]
 repeat (first|rw[ce,if_pos rfl])
 rw[show geti ([-1,-1,-1,-1,-1,-1,-1,-1,-1,-1,-1,18]:List Int) 11=some 18 from rfl,Option.bind_some,ce,if_pos rfl,show geti ([-1,-1,-1,-1,-1,-1,-1,-1,-1,-1,-1,18]:List Int) 9=some (-1) from rfl,Option.bind_some,ce,if_pos rfl,
  show geti ([-1,-1,-1,-1,-1,-1,-1,-1,-1,-1,-1,18]:List Int) 10=some (-1) from rfl,Option.bind_some,ce,if_pos rfl,ce,if_pos (by rw[l1];rfl),bK5 (by decide),Option.bind_some]
end
end Go.Proofs.YtjkoadoekaplpaaGreat

