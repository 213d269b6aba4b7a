/- Requests at a node: both sides. -/
import Derived.Test.YtinnfahmfggghaaReqJ
import Derived.Test.YtinnfahmfggghaaReqS
