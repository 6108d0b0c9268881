/- Nothing: no strings.Join here. -/
import Derived.Test.YtdcijleeoihlfaaProg
